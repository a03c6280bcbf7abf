/- Own texts, merged. -/
import Derived.WalkKit
import Derived.Test.YtpcbamcelpcigaaGreatMC19
import Derived.Test.YtpcbamcelpcigaaGreatMC00
set_option maxRecDepth 100000
set_option maxHeartbeats 32000000
open Go.Lib (hid)
namespace Go.Proofs.YtpcbamcelpcigaaGreat
open Go.RowKit Go.Shelf
open Ieee (double)
attribute [local go_sem] run_store_float
theorem rvalue (l:Bs) (h:NumT l) (w:World):Calls Tryz.prog 192 #[.string (tx l)] w fun e w'=>e = .returned (.float .f64 (valV l))∧w = w':=by
 have HS:=hid (tx_size' l)
 have HN:=hid h
 have HL:=hid h.2.2.2
 have HT:=hid (fun i (hi:i < l.length)=>tx_at l i hi)
 clear h
 go_enter Tryz.func192,Tryz.ntmps192
 go_wp2_with fail
 go_loop [3,4,5,6] (fun n b p i=>∃ j:Nat,j≤l.length∧i = .int .i64 j∧Hid (n = .int .i64 ((valF (l.take j)).1:Nat)∧b = .int .i64 ((10 ^ (valF (l.take j)).2.1:Nat):Int)∧p = .bool (valF (l.take j)).2.2)) (fun _ _ _ i=>l.length - (intOf i).toNat)
 case atStart=>exact ⟨0,Nat.zero_le _,rfl,hid ⟨rfl,rfl,rfl⟩⟩
 case round=>
  obtain ⟨j,hj,rfl,hh⟩:=hrel
  obtain ⟨rfl,rfl,rfl⟩:=hh.out
  have hb:=numT_take HN.out j
  obtain ⟨N,hN⟩:∃ N,N = (valF (l.take j)).1:=⟨_,rfl⟩
  obtain ⟨K,hK⟩:∃ K,K = (valF (l.take j)).2.1:=⟨_,rfl⟩
  obtain ⟨B,hB⟩:∃ B,B = (valF (l.take j)).2.2:=⟨_,rfl⟩
  rw [←hN,←hK] at hb
  rw [←hN,←hK,←hB]
  have HV:=hid (show valF (l.take j) = (N,K,B) by rw [hN,hK,hB])
  have jl:j≤1000000:=by have:=HL.out;omega
  have n1:N < 1000000000000000:=by have:=hb.1;omega
  have HK:=hid hb.2
  obtain ⟨X,hX⟩:∃ X,X = 10 ^ K:=⟨_,rfl⟩
  have x1:X≤1000000:=by rw [hX];exact Nat.pow_le_pow_right (n:=10) (by decide) hb.2
  have HX10:=hid (show 10 ^ (K + 1) = 10 * X by rw [hX,Nat.pow_succ,Nat.mul_comm])
  have HXF:=hid (show ofI (X:Int) = pw K by rw [hX];exact pw_ofI K hb.2)
  rw [←hX]
  have HXE:=hid hX
  clear hh hb hN hK hB hX
  by_cases q1:j < (tx l).size
  ·have q1':j < l.length:=by have:=HS.out;omega
   have HX:=hid (HT.out j q1')
   have HTS:=hid (take_snoc' l j q1')
   have HC:=hid (HN.out.1 (l.getD j 0) (by rw [List.getD_eq_getElem?_getD,List.getElem?_eq_getElem q1'];exact List.getElem_mem _))
   by_cases q2:l.getD j 0 = 46
   ·have z:(((tx l)[j]'q1).toNat:Int) = 46:=toNat_of (HX.out.trans q2)
    have HV2:Hid (valF (l.take (j + 1)) = (N,K,true)):=hid (by rw [HTS.out,valF_snoc,HV.out];unfold valStep;rw [if_pos q2])
    clear q2
    go_wp2
    go_round
    case rel=>exact ⟨j + 1,by omega,by go_num,hid (by rw [HV2.out];exact ⟨rfl,by rw [HXE.out],rfl⟩)⟩
    case measure=>simp [intOf];omega
   ·have z:¬ (((tx l)[j]'q1).toNat:Int) = 46:=ne_nat (c:=(tx l)[j]'q1) (v:=46) (by rw [HX.out];exact q2)
    have hd:isDig (l.getD j 0) = true:=by rcases HC.out with h | h;exact absurd h q2;exact h
    have hd2:48≤(((tx l)[j]'q1).toNat:Int)∧(((tx l)[j]'q1).toNat:Int)≤57:=by rw [HX.out];rw [digit_dec] at hd;simpa using hd
    obtain ⟨y1,y2⟩:=hd2
    have HV2:Hid (valF (l.take (j + 1)) = (10 * N + (((tx l)[j]'q1).toNat - 48),if B = true then K + 1 else K,B)):=hid (by rw [HTS.out,valF_snoc,HV.out,HX.out];unfold valStep;rw [if_neg q2])
    clear q2 hd
    cases B
    ·go_wp2
     go_round
     case rel=>exact ⟨j + 1,by omega,by go_num,hid (by rw [HV2.out];exact ⟨by go_num,by rw [if_neg (by decide),HXE.out],rfl⟩)⟩
     case measure=>simp [intOf];omega
    ·go_wp2
     go_round
     case rel=>exact ⟨j + 1,by omega,by go_num,hid (by rw [HV2.out];exact ⟨by go_num,by rw [if_pos rfl,HX10.out];go_num,rfl⟩)⟩
     case measure=>simp [intOf];omega
  ·have e:j = l.length:=by have:=HS.out;omega
   have hV:∀ W,(binOp BinOp.quo 37 (.float .f64 (floatOfInt .f64 (N:Int))) (.float .f64 (floatOfInt .f64 (X:Int)))).run Tryz.prog W = .ok (.float .f64 (valV l)) W:=fun W=>run_float_arith W .quo 37 .f64 _ _ _ (by
    have h1:=(valV_some HN.out).1
    have h2:=HV.out
    rw [e,List.take_length] at h2
    rw [h2] at h1
    have h3:floatOfInt .f64 (X:Int) = pw K:=HXF.out
    rw [h3]
    exact h1)
   clear e
   go_wp2
   go_ret
   exact ⟨rfl,rfl⟩
theorem rwrap {B : Nat} {res : Option (Tree × List Tok)} {w w2 : World} {v : Value} (hB : B ≤ w.heap.size)
    (hb : Below (w.alloc (.cells #[.string ⟨#[]⟩, .float .f64 0, .string ⟨#[]⟩, .slice none 0 0, .slice none 0 0, .bool false] 121)).heap.size (w.alloc (.cells #[.string ⟨#[]⟩, .float .f64 0, .string ⟨#[]⟩, .slice none 0 0, .slice none 0 0, .bool false] 121)) w2)
    (hv : RVal (fun b => (w.alloc (.cells #[.string ⟨#[]⟩, .float .f64 0, .string ⟨#[]⟩, .slice none 0 0, .slice none 0 0, .bool false] 121)).heap.size ≤ b) B w2 v res) :
    RB w2 w.heap.size (.string ⟨#[]⟩) (.float .f64 0) (.string ⟨#[]⟩) (.slice none 0 0) (.slice none 0 0) (.bool false) ∧
    ∃ o n s x l c y m d bad, v = .agg #[.string o, .float .f64 n, .string s, .slice x l c, .slice y m d, .bool bad] ∧
      REnd B res w (.returned (.agg #[.string o, .float .f64 n, .string s, .slice x l c, .slice y m d, .bool bad])) (putR w2 w.heap.size (.string o) (.float .f64 n) (.string s) (.slice x l c) (.slice y m d) (.bool bad)) := by
  have hz : (w.alloc (.cells #[.string ⟨#[]⟩, .float .f64 0, .string ⟨#[]⟩, .slice none 0 0, .slice none 0 0, .bool false] 121)).heap.size = w.heap.size + 1 := by simp
  have hr0 : RB (w.alloc (.cells #[.string ⟨#[]⟩, .float .f64 0, .string ⟨#[]⟩, .slice none 0 0, .slice none 0 0, .bool false] 121)) w.heap.size _ _ _ _ _ _ := heap_alloc_new _ _
  refine ⟨hr0.below hb, ?_⟩
  obtain ⟨o, n, s, x, l, c, y, m, d, bad, t, rfl, hn, hc⟩ := hv
  rw [hz] at hb hn
  refine ⟨o, n, s, x, l, c, y, m, d, bad, rfl, below_putR ((bel1 w _).trans (below_le hb (by omega))) (Nat.le_refl _), _, rfl, o, n, s, x, l, c, y, m, d, bad, t, rfl, ?_, ?_⟩
  · exact (hn.putR (fun hh => by have h3 : w.heap.size + 1 ≤ w.heap.size := hh; omega)).sub (fun b h1 _ => by have h3 : w.heap.size + 1 ≤ b := h1; show w.heap.size ≤ b; omega)
  · rcases hc with h1 | ⟨h1, ts, h2, h3, h4⟩
    · exact .inl h1
    · exact .inr ⟨h1, ts, h2, h3.putR hB, h4⟩
def RT (B:Nat) (F:Nat) (m:Mode) (lvl n:Nat):Prop:=
 ∀ ts v w,12 * ts.length + lvl≤n→ts.length≤1000000→B≤w.heap.size→KOk ts→TokV B w v ts→Calls Tryz.prog F #[v] w (REnd B (P valV true n m ts) w)
theorem rpart_0 (B k:Nat) (H:RC B 83 1 .and 9 k):RC B 109 0 (pm 0) (lvlP 0) k:=by
 intro ts v w hn hl hB hK hv
 have HB:=hid hB
 have HC:=hid (fun W (hb:B≤W.heap.size) ht=>H ts v W hn hl hb hK ht)
 have HT:=hid hv
 obtain ⟨x,tn,tc,rfl⟩:=hv.agg
 generalize hres:P valV true k .and ts = res at HC
 have HR:=hid (show P valV true k (pm 0) ts = res from hres)
 rw [HR.out]
 clear hn hl hB hK hv H hres HR
 show Calls Tryz.prog 109 #[.slice x tn tc,.int .i64 0] w _
 go_enter Tryz.func109,Tryz.ntmps109
 go_wp2_with (first | (go_at_call 83;fail))
 go_at_call 83
 refine (HC.out _ (by have:=HB.out;simp;omega) (HT.out.below ((Below.refl _ _).alloc (Nat.le_refl _) _) HB.out)).mono ?_
 rintro e w2 ⟨hb2,v2,rfl,hv2⟩
 obtain ⟨hz,o,n,s,x2,l,c,y,m,d,bad,rfl,hend⟩:=rwrap HB.out hb2 hv2
 have HE:=hid hend
 obtain ⟨k0,k1,k2,k3,k4,k5⟩:=hz.cells
 have HZ:=hid hz
 have f0:=hz.fr 0
 have f1:=hz.fr 1
 have f2:=hz.fr 2
 have f3:=hz.fr 3
 have f4:=hz.fr 4
 have f5:=hz.fr 5
 clear hz hend hb2 hv2 HC HT
 go_wp2
 exact bodyPost_ret (read_node _ rfl _ _ w.heap.size _ _ _ _ _ _ rfl HZ.out.put) rfl HE.out
theorem rpart_1 (B k:Nat) (H:RT B 146 .not 7 k):RC B 109 1 (pm 1) (lvlP 1) k:=by
 intro ts v w hn hl hB hK hv
 have HB:=hid hB
 have HC:=hid (fun W (hb:B≤W.heap.size) ht=>H ts v W hn hl hb hK ht)
 have HT:=hid hv
 obtain ⟨x,tn,tc,rfl⟩:=hv.agg
 generalize hres:P valV true k .not ts = res at HC
 have HR:=hid (show P valV true k (pm 1) ts = res from hres)
 rw [HR.out]
 clear hn hl hB hK hv H hres HR
 show Calls Tryz.prog 109 #[.slice x tn tc,.int .i64 1] w _
 go_enter Tryz.func109,Tryz.ntmps109
 go_wp2_with (first | (go_at_call 146;fail))
 go_at_call 146
 refine (HC.out _ (by have:=HB.out;simp;omega) (HT.out.below ((Below.refl _ _).alloc (Nat.le_refl _) _) HB.out)).mono ?_
 rintro e w2 ⟨hb2,v2,rfl,hv2⟩
 obtain ⟨hz,o,n,s,x2,l,c,y,m,d,bad,rfl,hend⟩:=rwrap HB.out hb2 hv2
 have HE:=hid hend
 obtain ⟨k0,k1,k2,k3,k4,k5⟩:=hz.cells
 have HZ:=hid hz
 have f0:=hz.fr 0
 have f1:=hz.fr 1
 have f2:=hz.fr 2
 have f3:=hz.fr 3
 have f4:=hz.fr 4
 have f5:=hz.fr 5
 clear hz hend hb2 hv2 HC HT
 go_wp2
 exact bodyPost_ret (read_node _ rfl _ _ w.heap.size _ _ _ _ _ _ rfl HZ.out.put) rfl HE.out
theorem rpart_2 (B k:Nat) (H:RC B 83 3 .prod 4 k):RC B 109 2 (pm 2) (lvlP 2) k:=by
 intro ts v w hn hl hB hK hv
 have HB:=hid hB
 have HC:=hid (fun W (hb:B≤W.heap.size) ht=>H ts v W hn hl hb hK ht)
 have HT:=hid hv
 obtain ⟨x,tn,tc,rfl⟩:=hv.agg
 generalize hres:P valV true k .prod ts = res at HC
 have HR:=hid (show P valV true k (pm 2) ts = res from hres)
 rw [HR.out]
 clear hn hl hB hK hv H hres HR
 show Calls Tryz.prog 109 #[.slice x tn tc,.int .i64 2] w _
 go_enter Tryz.func109,Tryz.ntmps109
 go_wp2_with (first | (go_at_call 83;fail))
 go_at_call 83
 refine (HC.out _ (by have:=HB.out;simp;omega) (HT.out.below ((Below.refl _ _).alloc (Nat.le_refl _) _) HB.out)).mono ?_
 rintro e w2 ⟨hb2,v2,rfl,hv2⟩
 obtain ⟨hz,o,n,s,x2,l,c,y,m,d,bad,rfl,hend⟩:=rwrap HB.out hb2 hv2
 have HE:=hid hend
 obtain ⟨k0,k1,k2,k3,k4,k5⟩:=hz.cells
 have HZ:=hid hz
 have f0:=hz.fr 0
 have f1:=hz.fr 1
 have f2:=hz.fr 2
 have f3:=hz.fr 3
 have f4:=hz.fr 4
 have f5:=hz.fr 5
 clear hz hend hb2 hv2 HC HT
 go_wp2
 exact bodyPost_ret (read_node _ rfl _ _ w.heap.size _ _ _ _ _ _ rfl HZ.out.put) rfl HE.out
theorem rpart_3 (B k:Nat) (H:RT B 147 .signed 2 k):RC B 109 3 (pm 3) (lvlP 3) k:=by
 intro ts v w hn hl hB hK hv
 have HB:=hid hB
 have HC:=hid (fun W (hb:B≤W.heap.size) ht=>H ts v W hn hl hb hK ht)
 have HT:=hid hv
 obtain ⟨x,tn,tc,rfl⟩:=hv.agg
 generalize hres:P valV true k .signed ts = res at HC
 have HR:=hid (show P valV true k (pm 3) ts = res from hres)
 rw [HR.out]
 clear hn hl hB hK hv H hres HR
 show Calls Tryz.prog 109 #[.slice x tn tc,.int .i64 3] w _
 go_enter Tryz.func109,Tryz.ntmps109
 go_wp2_with (first | (go_at_call 147;fail))
 go_at_call 147
 refine (HC.out _ (by have:=HB.out;simp;omega) (HT.out.below ((Below.refl _ _).alloc (Nat.le_refl _) _) HB.out)).mono ?_
 rintro e w2 ⟨hb2,v2,rfl,hv2⟩
 obtain ⟨hz,o,n,s,x2,l,c,y,m,d,bad,rfl,hend⟩:=rwrap HB.out hb2 hv2
 have HE:=hid hend
 obtain ⟨k0,k1,k2,k3,k4,k5⟩:=hz.cells
 have HZ:=hid hz
 have f0:=hz.fr 0
 have f1:=hz.fr 1
 have f2:=hz.fr 2
 have f3:=hz.fr 3
 have f4:=hz.fr 4
 have f5:=hz.fr 5
 clear hz hend hb2 hv2 HC HT
 go_wp2
 exact bodyPost_ret (read_node _ rfl _ _ w.heap.size _ _ _ _ _ _ rfl HZ.out.put) rfl HE.out
theorem rpart (B k:Nat) (H0:RC B 83 1 .and 9 k) (H1:RT B 146 .not 7 k) (H2:RC B 83 3 .prod 4 k) (H3:RT B 147 .signed 2 k) (lv:Nat) (h:lv < 4):RC B 109 lv (pm lv) (lvlP lv) k:=by
 match lv,h with
 | 0,_=>exact rpart_0 B k H0
 | 1,_=>exact rpart_1 B k H1
 | 2,_=>exact rpart_2 B k H2
 | 3,_=>exact rpart_3 B k H3
end Go.Proofs.YtpcbamcelpcigaaGreat
namespace Go.Proofs.YtpcbamcelpcigaaGreat
open Go.RowKit Go.Shelf
attribute [local go_sem] run_store_float
theorem rbad (B:Nat) (w:World):Calls Tryz.prog 191 #[] w (REnd B none w):=by
 have HZ:Hid (RB (w.alloc (.cells #[.string ⟨#[]⟩,.float .f64 0,.string ⟨#[]⟩,.slice none 0 0,.slice none 0 0,.bool true] 121)) w.heap.size (.string ⟨#[]⟩) (.float .f64 0) (.string ⟨#[]⟩) (.slice none 0 0) (.slice none 0 0) (.bool true)):=hid (heap_alloc_new _ _)
 have HE:Hid (REnd B none w (.returned (.agg #[.string ⟨#[]⟩,.float .f64 0,.string ⟨#[]⟩,.slice none 0 0,.slice none 0 0,.bool true])) (w.alloc (.cells #[.string ⟨#[]⟩,.float .f64 0,.string ⟨#[]⟩,.slice none 0 0,.slice none 0 0,.bool true] 121))):=
  hid ⟨bel1 w _,_,rfl,_,_,_,_,_,_,_,_,_,true,_,rfl,NodeV.zero _ _,.inl ⟨rfl,rfl⟩⟩
 go_enter Tryz.func191,Tryz.ntmps191
 go_wp2
 exact bodyPost_ret (read_node _ rfl _ _ w.heap.size _ _ _ _ _ _ rfl HZ.out) rfl HE.out
def under (op:Bs) (res:Option (Tree × List Tok)):Option (Tree × List Tok):=match res with | none=>none | some (b,r')=>some (one op b,r')
theorem P_signed_yes (n:Nat) (t:Tok) (r:List Tok) (h:isTok (t :: r) 4 [45] = true):P valV true (n + 1) .signed (t :: r) = under wneg (P valV true n .signed r):=by
 simp only [P]
 rw [if_pos h,adv_true]
 rfl
theorem P_signed_no (n:Nat) (ts:List Tok) (h:isTok ts 4 [45] = false):P valV true (n + 1) .signed ts = P valV true n .atom ts:=by
 simp only [P]
 rw [h]
 rfl
theorem rone {B:Nat} {res:Option (Tree × List Tok)} {w w2:World} {op:Bs} {o:ByteArray} {n:Nat} {s:ByteArray} {x:Option Addr} {l c:Nat} {y:Option Addr} {m d:Nat} {bad:Bool} {t:Tree} (hB:B≤w.heap.size) (hb:Below w.heap.size w w2) (hlt:w.heap.size < w2.heap.size)
  (hn:NodeV (fun b=>w.heap.size + 1≤b) w2 (.agg #[.string o,.float .f64 n,.string s,.slice x l c]) t)
  (hc:(bad = true∧res = none)∨(bad = false∧∃ ts,res = some (t,ts)∧TokV B w2 (.slice y m d) ts∧KOk ts)) (c0:Obj) :
  REnd B (under op res) w (.returned (.agg #[.string (tx op),.float .f64 0,.string ⟨#[]⟩,.slice (some ⟨w2.heap.size + 1,0,none⟩) 1 1,.slice y m d,.bool bad]))
   (((putR w2 w.heap.size (.string (tx op)) (.float .f64 0) (.string ⟨#[]⟩) (.slice (some ⟨w2.heap.size + 1,0,none⟩) 1 1) (.slice y m d) (.bool bad)).alloc c0).alloc (.cells #[.string o,.float .f64 n,.string s,.slice x l c] 87)):=by
 have hz3:(putR w2 w.heap.size (.string (tx op)) (.float .f64 0) (.string ⟨#[]⟩) (.slice (some ⟨w2.heap.size + 1,0,none⟩) 1 1) (.slice y m d) (.bool bad)).heap.size = w2.heap.size:=putR_size
 have hb3:=below_putR (v0:=.string (tx op)) (v1:=.float .f64 0) (v2:=.string ⟨#[]⟩) (v3:=.slice (some ⟨w2.heap.size + 1,0,none⟩) 1 1) (v4:=.slice y m d) (v5:=.bool bad) hb (Nat.le_refl w.heap.size)
 have hn3:NodeV (fun b=>w.heap.size + 1≤b) (putR w2 w.heap.size (.string (tx op)) (.float .f64 0) (.string ⟨#[]⟩) (.slice (some ⟨w2.heap.size + 1,0,none⟩) 1 1) (.slice y m d) (.bool bad)) _ t:=hn.putR (fun hh=>by have h3:w.heap.size + 1≤w.heap.size:=hh;omega)
 have hc3:(bad = true∧res = none)∨(bad = false∧∃ ts,res = some (t,ts)∧TokV B (putR w2 w.heap.size (.string (tx op)) (.float .f64 0) (.string ⟨#[]⟩) (.slice (some ⟨w2.heap.size + 1,0,none⟩) 1 1) (.slice y m d) (.bool bad)) (.slice y m d) ts∧KOk ts):=by
  rcases hc with h1 | ⟨h1,ts,h3,h4,h5⟩
  ·exact .inl h1
  ·exact .inr ⟨h1,ts,h3,h4.putR hB,h5⟩
 generalize putR w2 w.heap.size (.string (tx op)) (.float .f64 0) (.string ⟨#[]⟩) (.slice (some ⟨w2.heap.size + 1,0,none⟩) 1 1) (.slice y m d) (.bool bad) = W3 at hz3 hb3 hn3 hc3 ⊢
 rw [←hz3] at hlt ⊢
 have h2:Below W3.heap.size W3 ((W3.alloc c0).alloc (.cells #[.string o,.float .f64 n,.string s,.slice x l c] 87)):=((Below.refl _ _).alloc (Nat.le_refl _) _).alloc (by simp) _
 have hnew:((W3.alloc c0).alloc (.cells #[.string o,.float .f64 n,.string s,.slice x l c] 87)).heap[W3.heap.size + 1]? = some (.cells #[.string o,.float .f64 n,.string s,.slice x l c] 87 (0,0)):=by simpa using heap_alloc_new (W3.alloc c0) _
 have hnode:NodeV (fun b=>w.heap.size + 1≤b) ((W3.alloc c0).alloc (.cells #[.string o,.float .f64 n,.string s,.slice x l c] 87)) (.agg #[.string (tx op),.float .f64 0,.string ⟨#[]⟩,.slice (some ⟨W3.heap.size + 1,0,none⟩) 1 1]) (one op t):=
  node_one (g:=W3.heap.size + 1) (by show w.heap.size + 1≤W3.heap.size + 1;omega) hnew (hn3.below h2)
 refine ⟨hb3.trans (below_le h2 (by omega)),_,rfl,_,_,_,_,_,_,_,_,_,_,_,rfl,hnode.sub (fun b h1 _=>by have h3:w.heap.size + 1≤b:=h1;show w.heap.size≤b;omega),?_⟩
 rcases hc3 with ⟨h1,h3⟩ | ⟨h1,ts,h3,h4,h5⟩
 ·exact .inl ⟨h1,by rw [h3];rfl⟩
 ·exact .inr ⟨h1,ts,by rw [h3];rfl,h4.below h2 (by omega),h5⟩
theorem rsigned_step (B n:Nat) (H:RT B 147 .signed 2 n) (HA:RT B 173 .atom 1 n):RT B 147 .signed 2 (n + 1):=by
 intro ts v w hn hl hB hK hv
 have HB:=hid hB
 have HT:=hid hv
 have HIS:=hid (fun W (h:TokV B W v ts)=>ris B v ts 4 (.inr rfl) [45] hK hl W h)
 cases hq:isTok ts 4 [45]
 ·have HC:=hid (fun W (hb:B≤W.heap.size) ht=>HA ts v W (by omega) hl hb hK ht)
  rw [P_signed_no n ts hq]
  rw [hq] at HIS
  obtain ⟨x,tn,tc,rfl⟩:=hv.agg
  generalize P valV true n .atom ts = res at HC ⊢
  clear hn hl hB hK hv H HA hq
  go_enter Tryz.func147,Tryz.ntmps147
  go_wp2_with (first | (go_at_call 148;refine (HIS.out _ (HT.out.below ((Below.refl _ _).alloc (Nat.le_refl _) _) HB.out)).mono ?_;rintro e w5 ⟨rfl,rfl⟩) | (go_at_call 173;fail))
  go_at_call 173
  refine (HC.out _ (by have:=HB.out;simp;omega) (HT.out.below ((Below.refl _ _).alloc (Nat.le_refl _) _) HB.out)).mono ?_
  rintro e w2 ⟨hb2,v2,rfl,hv2⟩
  obtain ⟨hz,o,n,s,x2,l,c,y,m,d,bad,rfl,hend⟩:=rwrap HB.out hb2 hv2
  have HE:=hid hend
  obtain ⟨k0,k1,k2,k3,k4,k5⟩:=hz.cells
  have HZ:=hid hz
  have f0:=hz.fr 0
  have f1:=hz.fr 1
  have f2:=hz.fr 2
  have f3:=hz.fr 3
  have f4:=hz.fr 4
  have f5:=hz.fr 5
  clear hz hend hb2 hv2 HC HT HIS
  go_wp2
  exact bodyPost_ret (read_node _ rfl _ _ w.heap.size _ _ _ _ _ _ rfl HZ.out.put) rfl HE.out
 ·obtain ⟨t,r,rfl⟩:∃ t r,ts = t :: r:=by
   cases ts with
   | nil=>cases hq
   | cons t r=>exact ⟨t,r,rfl⟩
  have HC:=hid (fun W v1 (hb:B≤W.heap.size) ht=>H r v1 W (by rw [List.length_cons] at hn;omega) (by rw [List.length_cons] at hl;omega) hb hK.tail ht)
  rw [P_signed_yes n t r hq]
  rw [hq] at HIS
  obtain ⟨x,tn,tc,rfl⟩:=hv.agg
  obtain ⟨y2,m2,d2,hsl,_⟩:=tok_slice hv
  have HSL:Hid (∀ W,Below w.heap.size w W→TokV B W (.slice y2 m2 d2) r):=hid (fun W hW=>by
   obtain ⟨y3,m3,d3,h1,h2⟩:=tok_slice (hv.below hW hB)
   have h3:=(hsl W).symm.trans (h1 W)
   cases h3
   exact h2)
  generalize P valV true n .signed r = res at HC ⊢
  clear hn hl hB hK hv H HA hq
  go_enter Tryz.func147,Tryz.ntmps147
  go_wp2_with (first | (go_at_call 148;refine (HIS.out _ (HT.out.below ((Below.refl _ _).alloc (Nat.le_refl _) _) HB.out)).mono ?_;rintro e w5 ⟨rfl,rfl⟩) | (go_at_call 147;fail))
  go_at_call 147
  refine (HC.out _ _ (by have:=HB.out;simp;omega) (HSL.out _ ((Below.refl _ _).alloc (Nat.le_refl _) _))).mono ?_
  rintro e w2 ⟨hb2,v2,rfl,o,nn,s,x2,l,c,y,m,d,bad,t2,rfl,hnode,hcase⟩
  have hsz:(w.alloc (.cells #[.string ⟨#[]⟩,.float .f64 0,.string ⟨#[]⟩,.slice none 0 0,.slice none 0 0,.bool false] 121)).heap.size = w.heap.size + 1:=by simp
  have hr0:RB (w.alloc (.cells #[.string ⟨#[]⟩,.float .f64 0,.string ⟨#[]⟩,.slice none 0 0,.slice none 0 0,.bool false] 121)) w.heap.size _ _ _ _ _ _:=heap_alloc_new _ _
  have hz:=hr0.below hb2
  rw [hsz] at hb2 hnode
  have hlt:w.heap.size < w2.heap.size:=by have:=hb2.size;omega
  have HE:=hid (fun c0=>rone (op:=wneg) HB.out ((bel1 w _).trans (below_le hb2 (by omega))) hlt hnode hcase c0)
  have HZ:=hid (fun v0 v1 v2 v3 v4 v5 c0 c1=>(hz.put (v0:=v0) (v1:=v1) (v2:=v2) (v3:=v3) (v4:=v4) (v5:=v5)).below (((Below.refl _ (putR w2 w.heap.size v0 v1 v2 v3 v4 v5)).alloc (Nat.le_refl _) c0).alloc (by simp) c1))
  obtain ⟨k0,k1,k2,k3,k4,k5⟩:=hz.cells
  have f0:=hz.fr 0
  have f1:=hz.fr 1
  have f2:=hz.fr 2
  have f3:=hz.fr 3
  have f4:=hz.fr 4
  have f5:=hz.fr 5
  clear hz hr0 hsz hb2 hnode hcase HC HT HIS HSL hsl
  go_wp2
  exact bodyPost_ret (read_node _ rfl _ _ w.heap.size _ _ _ _ _ _ rfl (HZ.out _ _ _ _ _ _ _ _)) rfl (HE.out _)
theorem P_not_yes (n:Nat) (t:Tok) (r:List Tok) (h:isTok (t :: r) 2 wnot = true):P valV true (n + 1) .not (t :: r) = under wnot (P valV true n .not r):=by
 simp only [P]
 rw [if_pos h,adv_true]
 rfl
def cmpR (n:Nat):Option (Tree × List Tok)→Option (Tree × List Tok)
 | none=>none
 | some (a,[])=>some (a,[])
 | some (a,t :: r1)=>if t.k = 4∧isCmp t.s = true then (match P valV true n .sum r1 with | none=>none | some (b,r')=>some (two t.s a b,r')) else some (a,t :: r1)
theorem P_not_no (n:Nat) (ts:List Tok) (h:isTok ts 2 wnot = false):P valV true (n + 1) .not ts = cmpR n (P valV true n .sum ts):=by
 simp only [P]
 rw [if_neg (by rw [h];decide)]
 rcases P valV true n .sum ts with _ | ⟨a,_ | ⟨t,r1⟩⟩
 ·rfl
 ·rfl
 ·simp only [cmpR,adv_true]
  rfl
theorem rtruth_not (B n:Nat) (H:RT B 146 .not 7 n) (t:Tok) (r:List Tok) (hq:isTok (t :: r) 2 wnot = true) (v:Value) (w:World) (hn:12 * (t :: r).length + 7≤n + 1) (hl:(t :: r).length≤1000000) (hB:B≤w.heap.size) (hK:KOk (t :: r)) (hv:TokV B w v (t :: r)) :
  Calls Tryz.prog 146 #[v] w (REnd B (P valV true (n + 1) .not (t :: r)) w):=by
 have HB:=hid hB
 have HT:=hid hv
 have HIS:=hid (fun W (h:TokV B W v (t :: r))=>ris B v (t :: r) 2 (.inl rfl) wnot hK hl W h)
 have HC:=hid (fun W v1 (hb:B≤W.heap.size) ht=>H r v1 W (by rw [List.length_cons] at hn;omega) (by rw [List.length_cons] at hl;omega) hb hK.tail ht)
 rw [P_not_yes n t r hq]
 rw [hq] at HIS
 obtain ⟨x,tn,tc,rfl⟩:=hv.agg
 obtain ⟨y2,m2,d2,hsl,_⟩:=tok_slice hv
 have HSL:Hid (∀ W,Below w.heap.size w W→TokV B W (.slice y2 m2 d2) r):=hid (fun W hW=>by
  obtain ⟨y3,m3,d3,h1,h2⟩:=tok_slice (hv.below hW hB)
  have h3:=(hsl W).symm.trans (h1 W)
  cases h3
  exact h2)
 generalize P valV true n .not r = res at HC ⊢
 clear hn hl hB hK hv H hq
 go_enter Tryz.func146,Tryz.ntmps146
 go_wp2_with (first | (go_at_call 148;refine (HIS.out _ (HT.out.below ((Below.refl _ _).alloc (Nat.le_refl _) _) HB.out)).mono ?_;rintro e w5 ⟨rfl,rfl⟩) | (go_at_call 146;fail))
 go_at_call 146
 refine (HC.out _ _ (by have:=HB.out;simp;omega) (HSL.out _ ((Below.refl _ _).alloc (Nat.le_refl _) _))).mono ?_
 rintro e w2 ⟨hb2,v2,rfl,o,nn,s,x2,l,c,y,m,d,bad,t2,rfl,hnode,hcase⟩
 have hsz:(w.alloc (.cells #[.string ⟨#[]⟩,.float .f64 0,.string ⟨#[]⟩,.slice none 0 0,.slice none 0 0,.bool false] 121)).heap.size = w.heap.size + 1:=by simp
 have hr0:RB (w.alloc (.cells #[.string ⟨#[]⟩,.float .f64 0,.string ⟨#[]⟩,.slice none 0 0,.slice none 0 0,.bool false] 121)) w.heap.size _ _ _ _ _ _:=heap_alloc_new _ _
 have hz:=hr0.below hb2
 rw [hsz] at hb2 hnode
 have hlt:w.heap.size < w2.heap.size:=by have:=hb2.size;omega
 have HE:=hid (fun c0=>rone (op:=wnot) HB.out ((bel1 w _).trans (below_le hb2 (by omega))) hlt hnode hcase c0)
 have HZ:=hid (fun v0 v1 v2 v3 v4 v5 c0 c1=>(hz.put (v0:=v0) (v1:=v1) (v2:=v2) (v3:=v3) (v4:=v4) (v5:=v5)).below (((Below.refl _ (putR w2 w.heap.size v0 v1 v2 v3 v4 v5)).alloc (Nat.le_refl _) c0).alloc (by simp) c1))
 obtain ⟨k0,k1,k2,k3,k4,k5⟩:=hz.cells
 have f0:=hz.fr 0
 have f1:=hz.fr 1
 have f2:=hz.fr 2
 have f3:=hz.fr 3
 have f4:=hz.fr 4
 have f5:=hz.fr 5
 clear hz hr0 hsz hb2 hnode hcase HC HT HIS HSL hsl
 go_wp2
 exact bodyPost_ret (read_node _ rfl _ _ w.heap.size _ _ _ _ _ _ rfl (HZ.out _ _ _ _ _ _ _ _)) rfl (HE.out _)
theorem REnd.alloc {B:Nat} {res:Option (Tree × List Tok)} {w W:World} {e:Ending} (h:REnd B res w e W) (hB:B≤w.heap.size) (c:Obj):REnd B res w e (W.alloc c):=by
 obtain ⟨hb,v,he,o,n,s,x,l,c',y,m,d,bad,t,hv,hn,hc⟩:=h
 have h2:Below W.heap.size W (W.alloc c):=(Below.refl _ _).alloc (Nat.le_refl _) _
 refine ⟨hb.trans (below_le h2 hb.size),v,he,o,n,s,x,l,c',y,m,d,bad,t,hv,hn.below h2,?_⟩
 rcases hc with h1 | ⟨h1,ts,h3,h4,h5⟩
 ·exact .inl h1
 ·exact .inr ⟨h1,ts,h3,h4.below h2 (by have:=hb.size;omega),h5⟩
theorem rtruth_bad (B n:Nat) (H:RC B 83 2 .sum 6 n) (ts:List Tok) (hq:isTok ts 2 wnot = false) (hx:P valV true n .sum ts = none) (v:Value) (w:World) (hn:12 * ts.length + 7≤n + 1) (hl:ts.length≤1000000) (hB:B≤w.heap.size) (hK:KOk ts) (hv:TokV B w v ts) :
  Calls Tryz.prog 146 #[v] w (REnd B (P valV true (n + 1) .not ts) w):=by
 have HB:=hid hB
 have HT:=hid hv
 have HIS:=hid (fun W (h:TokV B W v ts)=>ris B v ts 2 (.inl rfl) wnot hK hl W h)
 have HC:=hid (fun W (hb:B≤W.heap.size) ht=>H ts v W (by omega) hl hb hK ht)
 rw [P_not_no n ts hq,hx]
 rw [hx] at HC
 rw [hq] at HIS
 obtain ⟨x,tn,tc,rfl⟩:=hv.agg
 show Calls _ _ _ _ (REnd B none w)
 clear hn hl hB hK hv H hq hx
 go_enter Tryz.func146,Tryz.ntmps146
 go_wp2_with (first | (go_at_call 148;refine (HIS.out _ (HT.out.below ((Below.refl _ _).alloc (Nat.le_refl _) _) HB.out)).mono ?_;rintro e w5 ⟨rfl,rfl⟩) | (go_at_call 83;fail))
 go_at_call 83
 refine (HC.out _ (by have:=HB.out;simp;omega) (HT.out.below ((Below.refl _ _).alloc (Nat.le_refl _) _) HB.out)).mono ?_
 rintro e w2 ⟨hb2,v2,rfl,hv2⟩
 obtain ⟨hz,o,n,s,x2,l,c,y,m,d,bad,rfl,hend⟩:=rwrap HB.out hb2 hv2
 have HE:=hid (fun c0=>hend.alloc HB.out c0)
 have hbad:bad = true:=by
  obtain ⟨_,v,hv,_,_,_,_,_,_,_,_,_,bad2,_,h2,_,⟨h3,_⟩ | ⟨_,ts,h3,_⟩⟩:=hend
  ·cases hv;cases h2;exact h3
  ·cases h3
 subst hbad
 have hlt:=hz.lt
 have HZ:=hid (fun v0 v1 v2 v3 v4 v5 c0=>(hz.put (v0:=v0) (v1:=v1) (v2:=v2) (v3:=v3) (v4:=v4) (v5:=v5)).below ((Below.refl _ (putR w2 w.heap.size v0 v1 v2 v3 v4 v5)).alloc (Nat.le_refl _) c0))
 obtain ⟨k0,k1,k2,k3,k4,k5⟩:=hz.cells
 have f0:=hz.fr 0
 have f1:=hz.fr 1
 have f2:=hz.fr 2
 have f3:=hz.fr 3
 have f4:=hz.fr 4
 have f5:=hz.fr 5
 clear hz hend hb2 hv2 HC HT HIS
 go_wp2
 exact bodyPost_ret (read_node _ rfl _ _ w.heap.size _ _ _ _ _ _ rfl (HZ.out _ _ _ _ _ _ _)) rfl (HE.out _)
theorem rtruth_end (B n:Nat) (H:RC B 83 2 .sum 6 n) (ts:List Tok) (hq:isTok ts 2 wnot = false) (a:Tree) (hx:P valV true n .sum ts = some (a,[])) (v:Value) (w:World) (hn:12 * ts.length + 7≤n + 1) (hl:ts.length≤1000000) (hB:B≤w.heap.size) (hK:KOk ts) (hv:TokV B w v ts) :
  Calls Tryz.prog 146 #[v] w (REnd B (P valV true (n + 1) .not ts) w):=by
 have HB:=hid hB
 have HT:=hid hv
 have HIS:=hid (fun W (h:TokV B W v ts)=>ris B v ts 2 (.inl rfl) wnot hK hl W h)
 have HC:=hid (fun W (hb:B≤W.heap.size) ht=>H ts v W (by omega) hl hb hK ht)
 rw [P_not_no n ts hq,hx]
 rw [hx] at HC
 rw [hq] at HIS
 obtain ⟨x,tn,tc,rfl⟩:=hv.agg
 show Calls _ _ _ _ (REnd B (some (a,[])) w)
 clear hn hl hB hK hv H hq hx
 go_enter Tryz.func146,Tryz.ntmps146
 go_wp2_with (first | (go_at_call 148;refine (HIS.out _ (HT.out.below ((Below.refl _ _).alloc (Nat.le_refl _) _) HB.out)).mono ?_;rintro e w5 ⟨rfl,rfl⟩) | (go_at_call 83;fail))
 go_at_call 83
 refine (HC.out _ (by have:=HB.out;simp;omega) (HT.out.below ((Below.refl _ _).alloc (Nat.le_refl _) _) HB.out)).mono ?_
 rintro e w2 ⟨hb2,v2,rfl,hv2⟩
 obtain ⟨hz,o,n,s,x2,l,c,y,m,d,bad,rfl,hend⟩:=rwrap HB.out hb2 hv2
 have HE:=hid (fun c0=>hend.alloc HB.out c0)
 obtain ⟨rfl,rfl⟩:bad = false∧m = 0:=by
  obtain ⟨_,v,hv,_,_,_,_,_,_,_,_,_,bad2,_,h2,_,⟨_,h3⟩ | ⟨h3,ts,h4,⟨_,_,h5,_⟩,_⟩⟩:=hend
  ·cases h3
  ·cases hv;cases h2;cases h4;cases h5;exact ⟨h3,rfl⟩
 have hlt:=hz.lt
 have HZ:=hid (fun v0 v1 v2 v3 v4 v5 c0=>(hz.put (v0:=v0) (v1:=v1) (v2:=v2) (v3:=v3) (v4:=v4) (v5:=v5)).below ((Below.refl _ (putR w2 w.heap.size v0 v1 v2 v3 v4 v5)).alloc (Nat.le_refl _) c0))
 obtain ⟨k0,k1,k2,k3,k4,k5⟩:=hz.cells
 have f0:=hz.fr 0
 have f1:=hz.fr 1
 have f2:=hz.fr 2
 have f3:=hz.fr 3
 have f4:=hz.fr 4
 have f5:=hz.fr 5
 clear hz hend hb2 hv2 HC HT HIS
 go_wp2
 exact bodyPost_ret (read_node _ rfl _ _ w.heap.size _ _ _ _ _ _ rfl (HZ.out _ _ _ _ _ _ _)) rfl (HE.out _)
theorem rtruth_kind (B n : Nat) (H : RC B 83 2 .sum 6 n) (ts : List Tok) (hq : isTok ts 2 wnot = false) (a : Tree) (t : Tok) (r1 : List Tok) (ht4 : t.k ≠ 4) (hx : P valV true n .sum ts = some (a, t :: r1)) (v : Value) (w : World) (hn : 12 * ts.length + 7 ≤ n + 1) (hl : ts.length ≤ 1000000) (hB : B ≤ w.heap.size) (hK : KOk ts) (hv : TokV B w v ts) :
    Calls Tryz.prog 146 #[v] w (REnd B (P valV true (n + 1) .not ts) w) := by
  have HB := hid hB
  have HT := hid hv
  have HIS := hid (fun W (h : TokV B W v ts) => ris B v ts 2 (.inl rfl) wnot hK hl W h)
  have HC := hid (fun W (hb : B ≤ W.heap.size) ht => H ts v W (by omega) hl hb hK ht)
  have hcr : cmpR n (some (a, t :: r1)) = some (a, t :: r1) := if_neg (fun h => ht4 h.1)
  rw [P_not_no n ts hq, hx, hcr]
  rw [hx] at HC
  rw [hq] at HIS
  obtain ⟨x, tn, tc, rfl⟩ := hv.agg
  show Calls _ _ _ _ (REnd B (some (a, t :: r1)) w)
  clear hn hl hB hK hv H hq hx
  go_enter Tryz.func146, Tryz.ntmps146
  go_wp2_with (first | (go_at_call 148; refine (HIS.out _ (HT.out.below ((Below.refl _ _).alloc (Nat.le_refl _) _) HB.out)).mono ?_; rintro e w5 ⟨rfl, rfl⟩) | (go_at_call 83; fail))
  go_at_call 83
  refine (HC.out _ (by have := HB.out; simp; omega) (HT.out.below ((Below.refl _ _).alloc (Nat.le_refl _) _) HB.out)).mono ?_
  rintro e w2 ⟨hb2, v2, rfl, hv2⟩
  obtain ⟨hz, o, n, s, x2, l, c, y, m, d, bad, rfl, hend⟩ := rwrap HB.out hb2 hv2
  have HE := hid (fun c0 => hend.alloc HB.out c0)
  obtain ⟨rfl, N, rfl, hN, ad, rfl, hab, g2, K, hK, hKn⟩ : bad = false ∧ ∃ N, m = N ∧ 0 < N ∧ ∃ ad, y = some ad ∧ ad.block < B ∧ w2.cell? ad = some (.int .u8 (kd t.k)) ∧ ∃ K, kd t.k = K ∧ ¬ K = 115 := by
    obtain ⟨_, _, _, _, _, _, _, _, _, _, _, h2, _, ⟨_, h3⟩ | ⟨h3, ts, h4, htv, hk⟩⟩ := hv2
    · cases h3
    · cases h2; cases h4
      obtain ⟨x', cap, h5, hcap, hx', hc⟩ := htv
      cases h5
      cases y with
      | none => have := hx' rfl; cases this
      | some ad =>
        obtain ⟨p1, p2, _⟩ := hc ad rfl 0 t rfl
        refine ⟨h3, _, rfl, by simp, ad, rfl, p1, p2, _, rfl, ?_⟩
        rcases (hk t (by simp)).1 with h | h | h | h
        · rw [h]; decide
        · rw [h]; decide
        · rw [h]; decide
        · exact absurd h ht4
  rw [hK] at g2
  have hlt := hz.lt
  have hab2 : ad.block < w2.heap.size := by have := HB.out; omega
  have q2 : (K != 115) = true := by simpa using hKn
  have q3 : ((m : Int) == 0) = false := by simp; omega
  have HZ := hid (fun v0 v1 v2 v3 v4 v5 c0 => (hz.put (v0 := v0) (v1 := v1) (v2 := v2) (v3 := v3) (v4 := v4) (v5 := v5)).below ((Below.refl _ (putR w2 w.heap.size v0 v1 v2 v3 v4 v5)).alloc (Nat.le_refl _) c0))
  obtain ⟨k0, k1, k2, k3, k4, k5⟩ := hz.cells
  have f0 := hz.fr 0
  have f1 := hz.fr 1
  have f2 := hz.fr 2
  have f3 := hz.fr 3
  have f4 := hz.fr 4
  have f5 := hz.fr 5
  clear hz hend hb2 hv2 HC HT HIS hK hcr ht4 hab
  go_wp2
  exact bodyPost_ret (read_node _ rfl _ _ w.heap.size _ _ _ _ _ _ rfl (HZ.out _ _ _ _ _ _ _)) rfl (HE.out _)
theorem rtruth_sign (B n : Nat) (H : RC B 83 2 .sum 6 n) (ts : List Tok) (hq : isTok ts 2 wnot = false) (a : Tree) (t : Tok) (r1 : List Tok) (ht4 : t.k = 4) (hcm : isCmp t.s = false) (hx : P valV true n .sum ts = some (a, t :: r1)) (v : Value) (w : World) (hn : 12 * ts.length + 7 ≤ n + 1) (hl : ts.length ≤ 1000000) (hB : B ≤ w.heap.size) (hK : KOk ts) (hv : TokV B w v ts) :
    Calls Tryz.prog 146 #[v] w (REnd B (P valV true (n + 1) .not ts) w) := by
  have HB := hid hB
  have HT := hid hv
  have HIS := hid (fun W (h : TokV B W v ts) => ris B v ts 2 (.inl rfl) wnot hK hl W h)
  have HC := hid (fun W (hb : B ≤ W.heap.size) ht => H ts v W (by omega) hl hb hK ht)
  have hcr : cmpR n (some (a, t :: r1)) = some (a, t :: r1) := if_neg (fun h => by rw [hcm] at h; cases h.2)
  rw [P_not_no n ts hq, hx, hcr]
  rw [hx] at HC
  rw [hq] at HIS
  obtain ⟨x, tn, tc, rfl⟩ := hv.agg
  show Calls _ _ _ _ (REnd B (some (a, t :: r1)) w)
  clear hn hl hB hK hv H hq hx
  go_enter Tryz.func146, Tryz.ntmps146
  go_wp2_with (first | (go_at_call 148; refine (HIS.out _ (HT.out.below ((Below.refl _ _).alloc (Nat.le_refl _) _) HB.out)).mono ?_; rintro e w5 ⟨rfl, rfl⟩) | (go_at_call 83; fail))
  go_at_call 83
  refine (HC.out _ (by have := HB.out; simp; omega) (HT.out.below ((Below.refl _ _).alloc (Nat.le_refl _) _) HB.out)).mono ?_
  rintro e w2 ⟨hb2, v2, rfl, hv2⟩
  obtain ⟨hz, o, n, s, x2, l, c, y, m, d, bad, rfl, hend⟩ := rwrap HB.out hb2 hv2
  have HE := hid (fun c0 => hend.alloc HB.out c0)
  obtain ⟨rfl, N, rfl, hN, ad, rfl, hab, g2, g3⟩ : bad = false ∧ ∃ N, m = N ∧ 0 < N ∧ ∃ ad, y = some ad ∧ ad.block < B ∧ w2.cell? ad = some (.int .u8 (kd t.k)) ∧ w2.cell? ⟨ad.block, ad.off + 1, none⟩ = some (.string (tx t.s)) := by
    obtain ⟨_, _, _, _, _, _, _, _, _, _, _, h2, _, ⟨_, h3⟩ | ⟨h3, ts, h4, htv, hk⟩⟩ := hv2
    · cases h3
    · cases h2; cases h4
      obtain ⟨x', cap, h5, hcap, hx', hc⟩ := htv
      cases h5
      cases y with
      | none => have := hx' rfl; cases this
      | some ad =>
        obtain ⟨p1, p2, p3⟩ := hc ad rfl 0 t rfl
        exact ⟨h3, _, rfl, by simp, ad, rfl, p1, p2, by simpa [Addr.add] using p3⟩
  rw [ht4, show kd 4 = 115 from rfl] at g2
  have hg : t.s ≠ [61] ∧ t.s ≠ [33, 61] ∧ t.s ≠ [60] ∧ t.s ≠ [60, 61] ∧ t.s ≠ [62] ∧ t.s ≠ [62, 61] := by
    simpa [isCmp, not_or] using hcm
  have t1 : ((tx t.s).toList == [61]) = false := tx_ne hg.1
  have t2 : ((tx t.s).toList == [33, 61]) = false := tx_ne hg.2.1
  have t3 : ((tx t.s).toList == [60]) = false := tx_ne hg.2.2.1
  have t4 : ((tx t.s).toList == [60, 61]) = false := tx_ne hg.2.2.2.1
  have t5 : ((tx t.s).toList == [62]) = false := tx_ne hg.2.2.2.2.1
  have t6 : ((tx t.s).toList == [62, 61]) = false := tx_ne hg.2.2.2.2.2
  have hlt := hz.lt
  have hab2 : ad.block < w2.heap.size := by have := HB.out; omega
  have q3 : ((m : Int) == 0) = false := by simp; omega
  have HZ := hid (fun v0 v1 v2 v3 v4 v5 c0 => (hz.put (v0 := v0) (v1 := v1) (v2 := v2) (v3 := v3) (v4 := v4) (v5 := v5)).below ((Below.refl _ (putR w2 w.heap.size v0 v1 v2 v3 v4 v5)).alloc (Nat.le_refl _) c0))
  obtain ⟨k0, k1, k2, k3, k4, k5⟩ := hz.cells
  have f0 := hz.fr 0
  have f1 := hz.fr 1
  have f2 := hz.fr 2
  have f3 := hz.fr 3
  have f4 := hz.fr 4
  have f5 := hz.fr 5
  clear hz hend hb2 hv2 HC HT HIS hcr ht4 hab hg hcm
  go_wp2
  exact bodyPost_ret (read_node _ rfl _ _ w.heap.size _ _ _ _ _ _ rfl (HZ.out _ _ _ _ _ _ _)) rfl (HE.out _)
end Go.Proofs.YtpcbamcelpcigaaGreat
