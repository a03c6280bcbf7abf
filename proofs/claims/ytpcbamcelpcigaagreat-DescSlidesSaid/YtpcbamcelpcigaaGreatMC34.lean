/- Own texts, merged. -/
import Derived.WalkKit
import Derived.Test.YtpcbamcelpcigaaGreatMC03
import Derived.Test.YtpcbamcelpcigaaGreatMC28
import Derived.Test.YtpcbamcelpcigaaGreatMC30
import Derived.Test.YtpcbamcelpcigaaGreatMC32
import Derived.Test.YtpcbamcelpcigaaGreatMC33
import Derived.Test.YtpcbamcelpcigaaGreatMC00
set_option maxRecDepth 100000
set_option maxHeartbeats 32000000
open Go.Lib (hid)
namespace Go.Proofs.YtpcbamcelpcigaaGreat
open Go.RowKit Go.Shelf
theorem tx_sizeK (l:Bs):(tx l).size = l.length:=by simp [tx,ByteArray.size]
theorem getD_lenK {L:List Bs} {n:Nat} (h:∀ l ∈ L,l.length≤n) (i:Nat):(L.getD i []).length≤n:=by
 rw [List.getD_eq_getElem?_getD]
 rcases Nat.lt_or_ge i L.length with h2 | h2
 ·rw [List.getElem?_eq_getElem h2];exact h _ (List.getElem_mem h2)
 ·rw [List.getElem?_eq_none h2];exact Nat.zero_le n
theorem rowK_get {W:World} {base:Nat} {x:Option Addr} {c:Nat} {L:List Bs} (h:W.ownsRow base 9 1 (.slice x L.length c) L.length (strs L)) (j:Nat) (hj:j < L.length):∃ g,x = some ⟨g,0,none⟩∧g < W.heap.size∧L.length≤c∧∀ i,i < L.length→W.cell? ⟨g,i,none⟩ = some (.string (tx (L.getD i []))):=by
 have hcl:=fun g (hg:(Value.slice x L.length c).ownBlock = some g)=>h.cells hg
 rcases h.2 with ⟨hv,h0⟩ | ⟨g,cap,cur,hv,_,hg,hnc,_⟩
 ·omega
 ·obtain ⟨rfl,rfl⟩:x = some ⟨g,0,none⟩∧c = cap:=by simpa using hv
  refine ⟨g,rfl,(Array.getElem?_eq_some_iff.1 hg).1,hnc,fun i hi=>?_⟩
  have:=hcl g rfl i (.string (tx (L.getD i []))) (by rw [strs,List.getElem?_map,List.getElem?_eq_getElem hi,List.getD_eq_getElem?_getD,List.getElem?_eq_getElem hi];rfl)
  have ha:(⟨g,0,none⟩:Addr).add i = ⟨g,i,none⟩:=by by_cases e:i = 0 <;> simp [Addr.add,e]
  rw [ha] at this
  exact this
theorem strs_app (A B:List Bs):strs (A ++ B) = strs A ++ strs B:=by simp [strs]
def outR (rs:List Int):List Bs:=endS (cutF rs)
def lastI (L:List Bs):Bs:=L.getD (L.length - 1) []
theorem cutF_wf (rs : List Int) : (cutF rs).2.2 = false → (cutF rs).1 = [] := by
  have : ∀ (rs : List Int) (s : List Bs × Bs × Bool), (s.2.2 = false → s.1 = []) → ((rs.foldl cutR s).2.2 = false → (rs.foldl cutR s).1 = []) := by
    intro rs
    induction rs with
    | nil => intro s h; exact h
    | cons r rs ih =>
      intro s h
      refine ih _ ?_
      unfold cutR addS
      split
      · exact h
      · split
        · intro q; cases q
        · split
          · intro q; cases q
          · exact h
  exact this rs _ (fun _ => rfl)
theorem outR_snoc (rs:List Int) (r:Int):outR (rs ++ [r]) = if 0 < ofW r then outR rs ++ [rb r] else if isMk r = true∧outR rs≠[]∧(lastI (outR rs)).length + (rb r).length≤64 then (outR rs).set ((outR rs).length - 1) (lastI (outR rs) ++ rb r) else outR rs:=by
 unfold outR
 rw [cutF_snoc]
 have hwf:=cutF_wf rs
 revert hwf
 generalize cutF rs = s
 intro hwf
 obtain ⟨D,N,o⟩:=s
 have hwf:o = false→D = []:=hwf
 unfold cutR
 by_cases hc:ctl r = true
 ·have ho:ofW r = 0:=by unfold ofW;rw [if_pos (.inr (.inl hc))]
  have hm:isMk r = false:=by unfold isMk;rw [hc];simp
  rw [if_pos hc,if_neg (by omega),if_neg (by rw [hm];simp)]
 ·rw [if_neg hc]
  unfold addS
  by_cases h0:0 < ofW r
  ·rw [if_pos h0,if_pos h0]
   cases o
   ·rw [hwf rfl];rfl
   ·simp [endS]
  ·rw [if_neg h0,if_neg h0]
   cases o
   ·rw [hwf rfl]
    simp [endS]
   ·have e1:endS (D,N,true) = D ++ [N]:=rfl
    have e2:lastI (D ++ [N]) = N:=by simp [lastI,List.getD_eq_getElem?_getD]
    rw [e1,e2]
    by_cases hk:isMk r = true∧N.length + (rb r).length≤64
    ·rw [if_pos ⟨rfl,hk.1,hk.2⟩,if_pos ⟨hk.1,by simp,hk.2⟩]
     simp [endS]
    ·rw [if_neg (fun q=>hk ⟨q.2.1,q.2.2⟩),if_neg (fun q=>hk ⟨q.1,q.2.2⟩)]
     rfl
theorem outR_len (rs:List Int):(outR rs).length≤rs.length + 1:=by
 have:=(cutF_len rs).1
 unfold outR endS
 split
 ·simp;omega
 ·omega
theorem outR_short (rs:List Int):∀ c ∈ outR rs,c.length≤64:=by
 have h:∀ (rs:List Int) (s:List Bs × Bs × Bool),Short s→Short (rs.foldl cutR s):=by
  intro rs
  induction rs with
  | nil=>intro s h;exact h
  | cons r rs ih=>intro s h;exact ih _ (cutR_short s r h)
 obtain ⟨h1,h2⟩:=h rs ([],[],false) ⟨by simp,by simp⟩
 unfold outR endS cutF
 intro c hc
 split at hc
 ·rcases List.mem_append.1 hc with q | q
  ·exact h1 c q
  ·simp at q;rw [q];exact h2
 ·exact h1 c hc
theorem cutS_out (l:Bs):cutS l = outR ((itm l).map (·.2)):=rfl
theorem row_set {w:World} {base n cap:Nat} {x:Option Addr} {g:Nat} {xs:List Value} (h:w.ownsRow base 9 1 (.slice x n cap) n xs) (hx:x = some ⟨g,0,none⟩) (k:Nat) (hk:k < n) (v:Value):(w.setCell ⟨g,k,none⟩ v).ownsRow base 9 1 (.slice x n cap) n (xs.set k v):=by
 have h1:=h.1
 refine ⟨by rw [List.length_set];exact h1,?_⟩
 rcases h.2 with ⟨_,h0⟩ | ⟨g',cap',cur,hv,hb,hg,hnc,hcm,hcs,htake⟩
 ·omega
 ·obtain ⟨e1,rfl⟩:x = some ⟨g',0,none⟩∧cap = cap':=by simpa using hv
  rw [hx] at e1
  obtain rfl:g = g':=by simpa using e1
  refine .inr ⟨g,cap,cur.setIfInBounds k v,by rw [hx],hb,set_block hg v,hnc,hcm,by simpa using hcs,?_⟩
  rw [←htake]
  rw [Array.toList_setIfInBounds,List.take_set]
structure CtI (w1:World) (L:List Bs) (v:Value) (W:World):Prop where
 row:W.ownsRow w1.heap.size 9 1 v L.length (strs L)
 bel:Below w1.heap.size w1 W
theorem CtI.below {w1:World} {L:List Bs} {v:Value} {W W':World} (h:CtI w1 L v W) (hb:Below W.heap.size W W'):CtI w1 L v W':=
 ⟨row_kept h.row (fun j hj=>hb.block j (h.row.lt j hj).2),h.bel.trans (below_le hb h.bel.size)⟩
theorem CtI.app {w1 W w2:World} {L:List Bs} {v v':Value} {X:Bs} {o:Obj} (h:CtI w1 L v W) (ho:w2.ownsRow w1.heap.size 9 1 v' (L.length + 1) (strs L ++ [.string (tx X)])) (hg:(W.alloc o).grownBy w2 v.ownBlock):CtI w1 (L ++ [X]) v' w2:=
 ⟨by rw [strs_app,List.length_append];exact ho,(h.bel.alloc h.bel.size o).grown hg (by have:=h.bel.size;simp;omega) (fun j hj=>(h.row.lt j hj).1)⟩
theorem CtI.set {w1 W:World} {L:List Bs} {g cap:Nat} {X:Bs} {k:Nat} (h:CtI w1 L (.slice (some ⟨g,0,none⟩) L.length cap) W) (hk:k < L.length):CtI w1 (L.set k X) (.slice (some ⟨g,0,none⟩) L.length cap) (W.setCell ⟨g,k,none⟩ (.string (tx X))):=by
 refine ⟨?_,h.bel.setCell (p:=⟨g,k,none⟩) ((h.row.lt g rfl).1) _⟩
 have:=row_set h.row rfl k hk (.string (tx X))
 rw [List.length_set]
 rw [show strs (L.set k X) = (strs L).set k (.string (tx X)) by simp [strs,List.map_set]]
 exact this
theorem conv_back (w:World) (g:Nat) (l:Bs) (h:w.heap[g]? = some (.cells (Lib.byteCells l).toArray 5 (0,0))):(convert 110 9 (.slice (some ⟨g,0,none⟩) l.length l.length)).run Tryz.prog w = .ok (.string (tx l)) w:=
 run_convert_bytes_back w 110 9 5 ⟨g,0,none⟩ l.length l Tryz.underlying110 Tryz.underlying5 Tryz.underlying9 (fun j hj=>by
  have h4:(⟨g,0,none⟩:Addr).add j = ⟨g,j,none⟩:=by by_cases e:j = 0 <;> simp [Addr.add,e]
  rw [h4]
  simp [World.cell?,h,Lib.byteCells,hj])
theorem run_get {w:World} {base:Nat} {x:Option Addr} {n cap:Nat} {xs:List (Nat × Int)} (h:w.ownsRow base 21 1 (.slice x n cap) n (runV xs)) (j:Nat) (hj:j < n):∃ g,x = some ⟨g,0,none⟩∧g < w.heap.size∧n≤cap∧∀ i,i < n→w.cell? ⟨g,i,none⟩ = some (.int .i32 ((xs.map (·.2)).getD i 0)):=by
 have hl:=h.1
 rcases h.2 with ⟨_,h0⟩ | ⟨g,cap',cur,hv,hb,hg,hnc,_⟩
 ·omega
 ·obtain ⟨rfl,rfl⟩:x = some ⟨g,0,none⟩∧cap = cap':=by simpa using hv
  refine ⟨g,rfl,(Array.getElem?_eq_some_iff.1 hg).1,hnc,fun i hi=>?_⟩
  have:=h.cellAt i (by omega)
  rw [this,runV,List.getElem?_map,List.getElem?_eq_getElem (by simp [runV] at hl;omega),List.getD_eq_getElem?_getD,List.getElem?_map,List.getElem?_eq_getElem (by simp [runV] at hl;omega)]
  rfl
theorem rcut (l:Bs) (hl:l.length≤900000) (w:World):Calls Tryz.prog 56 #[.string (tx l)] w (CutEnd l w):=by
 obtain ⟨ti,p1,p2,p3,p4⟩:=info_parts9
 have HP:=hid (And.intro p1 (And.intro p2 (And.intro p3 p4)))
 obtain ⟨cap,W1,hcv,hcap,hby,hbl,hsz⟩:=conv_bytes w l
 have HRN:=hid (rrunes w.heap.size 0 cap l hcap (by omega) W1 hby (by omega))
 unfold RunesEnd at HRN
 have HBL:=hid hbl
 have HIL:=hid (itm_len l)
 have HLL:=hid hl
 obtain ⟨T,hT⟩:∃ T,T = tx l:=⟨_,rfl⟩
 obtain ⟨n,hn⟩:∃ n,n = l.length:=⟨_,rfl⟩
 have HN:=hid hn
 rw [←hT,←hn] at hcv
 rw [←hn] at HRN
 rw [←hT]
 clear hT hby hbl hsz hcap hl hn p1 p2 p3 p4
 go_enter Tryz.func56,Tryz.ntmps56
 go_wp2_with (first | (go_at_call 78;fail))
 go_at_call 78
 refine HRN.out.mono ?_
 rintro e w1 ⟨v4,v5,rfl,hrn⟩
 obtain ⟨y4,d4,rfl⟩:=ownsRow_is hrn.r4
 obtain ⟨y5,d5,rfl⟩:=ownsRow_is hrn.r5
 have H4:=hid hrn.r4
 have HB1:=hid (HBL.out.trans (below_le hrn.bel HBL.out.size))
 obtain ⟨RS,hRS⟩:∃ RS,RS = (itm l).map (·.2):=⟨_,rfl⟩
 have HRS:=hid hRS
 obtain ⟨N,hN⟩:∃ N,N = (itm l).length:=⟨_,rfl⟩
 have HNI:Hid (N = RS.length):=hid (by rw [hN,hRS,List.length_map])
 have hNL:N≤900000:=by have:=HIL.out;have:=HLL.out;omega
 rw [←hN] at H4 ⊢
 clear hrn hcv HRN hRS hN
 go_wp2
 go_loopw [3,6] (fun v3 i wr=>∃ j:Nat,i = .int .i64 (j:Int)∧j≤N∧Hid (CtI w1 (outR (RS.take j)) v3 wr)) (fun _ i _=>N - (intOf i).toNat)
 case atStart=>exact ⟨0,rfl,Nat.zero_le _,hid ⟨World.ownsRow_nil _ _ _ _,Below.refl _ _⟩⟩
 case round=>
  obtain ⟨j,rfl,hj,HR⟩:=hrel
  have i1:(0:Int)≤(j:Int):=by omega
  obtain ⟨y3,d3,hy3⟩:=ownsRow_is HR.out.row
  subst hy3
  by_cases hlt:j < N
  ·have i2:(j:Int) < (N:Int):=by omega
   obtain ⟨g,rfl,hg,hgc,hget⟩:=run_get H4.out j hlt
   rw [←HRS.out] at hget
   have ce:=(HR.out.bel.cell (p:=⟨g,j,none⟩) hg).trans (hget j hlt)
   have HTK:Hid (RS.take (j + 1) = RS.take j ++ [RS.getD j 0]):=hid (by
    have h1:j < RS.length:=by have:=HNI.out;omega
    rw [List.take_succ_eq_append_getElem h1,List.getD_eq_getElem?_getD,List.getElem?_eq_getElem h1];rfl)
   have HGC:=hid (And.intro hg (And.intro hgc hget))
   obtain ⟨r,hr⟩:∃ r,r = RS.getD j 0:=⟨_,rfl⟩
   rw [←hr] at HTK ce
   have HRR:=hid hr
   have HSN:=hid (outR_snoc (RS.take j) r)
   rw [←HTK.out] at HSN
   have HLO:=hid (outR_len (RS.take j))
   have HSH:=hid (outR_short (RS.take j))
   obtain ⟨O,hO⟩:∃ O,O = outR (RS.take j):=⟨_,rfl⟩
   rw [←hO] at HSN HR HLO HSH ⊢
   have hOL:O.length≤900001:=by have:=HLO.out;simp at this;omega
   have hgl:g < wr.heap.size:=by have:=HR.out.bel.size;omega
   clear hget hg hgc hr hO
   go_wp2_with (first | (go_at_call 79;fail))
   go_at_call 79
   refine (rbytes r _).mono ?_
   rintro e w2 ⟨gb,rfl,hgb,hge,hb2⟩
   have hcv2:=conv_back w2 gb (rb r) hgb
   have H2:=hid (HR.out.below hb2)
   have ce2:w2.cell? ⟨g,j,none⟩ = some (.int .i32 r):=(hb2.cell (p:=⟨g,j,none⟩) hgl).trans ce
   have hgl2:g < w2.heap.size:=by have:=hb2.size;omega
   have hrl:=rb_len r
   have HOF:=hid (rOf r)
   have HMK:=hid (rMark3 r)
   obtain ⟨B,hB⟩:∃ B,B = rb r:=⟨_,rfl⟩
   obtain ⟨TB,hTB⟩:∃ T,T = tx (rb r):=⟨_,rfl⟩
   have hTBs:TB.size = B.length:=by rw [hTB,show (tx (rb r)).size = (rb r).length from by simp [tx,ByteArray.size],hB]
   have HTB:Hid (TB = tx B):=hid (by rw [hTB,hB])
   rw [←hTB] at hcv2
   rw [←hB] at hcv2 HSN hrl ⊢
   obtain ⟨V,hV⟩:∃ V,V = ofW r:=⟨_,rfl⟩
   obtain ⟨M,hM⟩:∃ M,M = isMk r:=⟨_,rfl⟩
   rw [←hV] at HOF HSN
   rw [←hM] at HMK HSN
   clear hgb hge hb2 HR ce hgl hB hTB hV hM
   by_cases h0:0 < V
   ·have HS:Hid (outR (RS.take (j + 1)) = O ++ [B]):=hid (by rw [HSN.out,if_pos h0])
    clear HSN
    go_wp2_with (first | (go_at_call 80;fail))
    go_at_call 80
    refine (HOF.out _).mono ?_
    rintro e w3 ⟨rfl,hb3⟩
    have H3:=hid (H2.out.below hb3)
    clear hb3 ce2 hcv2 H2
    go_wp2_with (at_builtin;go_loud (refine wpList_append_own _ rfl _ _ 23 rfl w1.heap.size 9 ti (.string ⟨#[]⟩) 1 16 Tryz.underlying23 HP.out.1 HP.out.2.1 HP.out.2.2.1 HP.out.2.2.2 rfl (by decide) _ _ _ rfl (H3.out.row.alloc _) ⟨w3.heap.size,0,none⟩ 1 1 [.string TB] rfl rfl (cell_one_new _ _ _) (by simp [Value.oneCell']) (by unfold maxLen;omega) (by omega) (by have:=H3.out.bel.size;simp;omega) ?_))
    intro v' w4 ho hg4 _
    have H4':=hid (H3.out.app (X:=B) (by rw [←HTB.out];exact ho) hg4)
    clear ho hg4
    go_wp2
    go_roundw
    case rel=>exact ⟨j + 1,by go_num,by omega,hid (by rw [HS.out];exact H4'.out)⟩
    case measure=>simp [intOf];omega
   ·have HV0:=hid h0
    by_cases hM:M = true
    ·subst hM
     have hnn:0≤O.length:=Nat.zero_le _
     by_cases hO0:O = []
     ·have HS:Hid (outR (RS.take (j + 1)) = O):=hid (by rw [HSN.out,if_neg (by have:=HV0.out;omega),if_neg (fun q=>q.2.1 hO0)])
      have hl0:O.length = 0:=by rw [hO0];rfl
      rw [hl0]
      clear HSN hO0
      go_wp2_with (first | (go_at_call 80;fail))
      go_at_call 80
      refine (HOF.out _).mono ?_
      rintro e w3 ⟨rfl,hb3⟩
      have H3:=hid (H2.out.below hb3)
      have ce3:w3.cell? ⟨g,j,none⟩ = some (.int .i32 r):=(hb3.cell (p:=⟨g,j,none⟩) hgl2).trans ce2
      clear hb3 ce2 hcv2 H2
      go_wp2_with (first | (go_at_call 81;fail))
      go_at_call 81
      refine (HMK.out _).mono ?_
      rintro e w4 ⟨rfl,hb4⟩
      have H4':=hid (H3.out.below hb4)
      clear hb4 H3 ce3
      rw [hl0] at H4'
      go_wp2
      go_roundw
      case rel=>exact ⟨j + 1,by go_num,by omega,hid (by rw [HS.out];exact H4'.out)⟩
      case measure=>simp [intOf];omega
     ·have hlp:0 < O.length:=List.length_pos_iff.2 hO0
      obtain ⟨q,hq⟩:∃ q,O.length = q + 1:=⟨O.length - 1,by omega⟩
      obtain ⟨g3,e3,hg3,hgc3,hget3⟩:=rowK_get H2.out.row q (by omega)
      subst e3
      have HLI:Hid (lastI O = O.getD q []):=hid (by unfold lastI;rw [hq];rfl)
      have HG3:=hid (And.intro hg3 (And.intro hgc3 (hget3 q (by omega))))
      rw [hq] at hgc3
      have HQ:=hid hq
      rw [hq]
      have hq1:q≤900001:=by omega
      obtain ⟨X,hX⟩:∃ X,X = O.getD q []:=⟨_,rfl⟩
      rw [←hX] at HLI HG3
      obtain ⟨TX,hTX⟩:∃ T,T = tx X:=⟨_,rfl⟩
      rw [←hTX] at HG3
      have HTX:=hid hTX
      have hTXs:TX.size = X.length:=by rw [hTX,tx_sizeK]
      have hTX64:TX.size≤64:=by rw [hTXs,hX];exact getD_lenK HSH.out q
      have hTB4:TB.size≤4:=by omega
      have hzz:0≤q:=Nat.zero_le _
      have z1:(0:Int)≤(q:Int):=by omega
      have z2:(q:Int) < (q:Int) + 1:=by omega
      have hON:=hid hO0
      clear hX hTX hget3 hq hlp hO0 hnn hg3
      go_wp2_with (first | (go_at_call 80;fail))
      go_at_call 80
      refine (HOF.out _).mono ?_
      rintro e w3 ⟨rfl,hb3⟩
      have H3:=hid (H2.out.below hb3)
      have ce3:w3.cell? ⟨g,j,none⟩ = some (.int .i32 r):=(hb3.cell (p:=⟨g,j,none⟩) hgl2).trans ce2
      have cx3:w3.cell? ⟨g3,q,none⟩ = some (.string TX):=(hb3.cell (p:=⟨g3,q,none⟩) HG3.out.1).trans HG3.out.2.2
      have hl3:g3 < w3.heap.size:=by have:=hb3.size;have:=HG3.out.1;omega
      clear hb3 ce2 hcv2 H2
      go_wp2_with (first | (go_at_call 81;fail))
      go_at_call 81
      refine (HMK.out _).mono ?_
      rintro e w4 ⟨rfl,hb4⟩
      have H4':=hid (H3.out.below hb4)
      have cx4:w4.cell? ⟨g3,q,none⟩ = some (.string TX):=(hb4.cell (p:=⟨g3,q,none⟩) hl3).trans cx3
      clear hb4 H3 ce3 cx3
      obtain ⟨cur,hcur⟩:=own_cells H4'.out.row g3 rfl
      have f4:w4.frozen? ⟨g3,q,none⟩ = false:=by simp [World.frozen?,hcur]
      clear hcur
      rw [HLI.out,←hTXs,←hTBs,HQ.out] at HSN
      by_cases h64:TX.size + TB.size≤64
      ·have HS:Hid (outR (RS.take (j + 1)) = O.set q (X ++ B)):=hid (by rw [HSN.out,if_neg (by have:=HV0.out;omega),if_pos (by first | exact ⟨rfl,hON.out,h64⟩ | exact ⟨trivial,hON.out,h64⟩)];rfl)
       have HCA:Hid (TX ++ TB = tx (X ++ B)):=hid (by rw [HTX.out,HTB.out];apply ByteArray.ext;simp [tx])
       have HNX:=hid (H4'.out.set (X:=X ++ B) (k:=q) (by have:=HQ.out;omega))
       rw [←HCA.out,HQ.out] at HNX
       have z3:(TX.size:Int) + (TB.size:Int)≤64:=by omega
       clear HSN hTXs hTBs
       go_wp2
       go_roundw
       case rel=>exact ⟨j + 1,by go_num,by omega,hid (by rw [HS.out];exact HNX.out)⟩
       case measure=>simp [intOf];omega
      ·have HS:Hid (outR (RS.take (j + 1)) = O):=hid (by rw [HSN.out,if_neg (by have:=HV0.out;omega),if_neg (fun z=>h64 z.2.2)])
       have z3:¬ (TX.size:Int) + (TB.size:Int)≤64:=by omega
       have HNX:=hid H4'.out
       rw [HQ.out] at HNX
       clear HSN hTXs hTBs
       go_wp2
       go_roundw
       case rel=>exact ⟨j + 1,by go_num,by omega,hid (by rw [HS.out];exact HNX.out)⟩
       case measure=>simp [intOf];omega
    ·have hM':M = false:=by simpa using hM
     subst hM'
     have HS:Hid (outR (RS.take (j + 1)) = O):=hid (by rw [HSN.out,if_neg (by have:=HV0.out;omega),if_neg (fun z=>by cases z.1)])
     clear HSN hM
     obtain ⟨nO,hnO⟩:∃ nO,nO = O.length:=⟨_,rfl⟩
     have HNO:=hid hnO
     rw [←hnO] at hOL ⊢
     clear hnO
     go_wp2_with (first | (go_at_call 80;fail))
     go_at_call 80
     refine (HOF.out _).mono ?_
     rintro e w3 ⟨rfl,hb3⟩
     have H3:=hid (H2.out.below hb3)
     have ce3:w3.cell? ⟨g,j,none⟩ = some (.int .i32 r):=(hb3.cell (p:=⟨g,j,none⟩) hgl2).trans ce2
     clear hb3 ce2 hcv2 H2
     go_wp2_with (first | (go_at_call 81;fail))
     go_at_call 81
     refine (HMK.out _).mono ?_
     rintro e w4 ⟨rfl,hb4⟩
     have H4':=hid (H3.out.below hb4)
     rw [←HNO.out] at H4'
     clear hb4 H3 ce3
     go_wp2
     go_roundw
     case rel=>exact ⟨j + 1,by go_num,by omega,hid (by rw [HS.out];exact H4'.out)⟩
     case measure=>simp [intOf];omega
  ·have i2:¬ (j:Int) < (N:Int):=by omega
   have hRJ:RS.take j = RS:=List.take_of_length_le (by have:=HNI.out;omega)
   have hE:outR (RS.take j) = cutS l:=by rw [hRJ,cutS_out,HRS.out]
   rw [hE] at HR ⊢
   have HEN:Hid (CutEnd l w (.returned (.slice y3 (cutS l).length d3)) wr):=hid ⟨_,rfl,row_lower HR.out.row (by have:=HB1.out.size;omega),HB1.out.trans (below_le HR.out.bel HB1.out.size)⟩
   clear HR hE hRJ
   go_wp2
   go_ret
   exact HEN.out
theorem flatten_take (L:List Bs) (j:Nat) (hj:j < L.length):(L.take (j + 1)).flatten = (L.take j).flatten ++ L.getD j []:=by
 rw [List.take_succ_eq_append_getElem hj,List.flatten_append,List.getD_eq_getElem?_getD,List.getElem?_eq_getElem hj]
 simp
theorem rclean (l:Bs) (hl:l.length≤900000) (w:World):Calls Tryz.prog 77 #[.string (tx l)] w fun e w'=>e = .returned (.string (tx (cleanS l)))∧Below w.heap.size w w':=by
 have HC:=hid (fun W=>rcut l hl W)
 unfold CutEnd at HC
 have HLN:=hid (cutS_len l)
 have HSH:=hid (cutS_short l)
 have HLL:=hid hl
 have HV:=hid (show cleanS l = (cutS l).flatten from rfl)
 obtain ⟨T,hT⟩:∃ T,T = tx l:=⟨_,rfl⟩
 rw [←hT] at HC ⊢
 clear hT
 obtain ⟨L,hL⟩:∃ L,L = cutS l:=⟨_,rfl⟩
 rw [←hL] at HC HLN HSH HV
 clear hL hl
 go_enter Tryz.func77,Tryz.ntmps77
 go_wp2_with (first | (go_at_call 56;fail))
 go_at_call 56
 refine (HC.out _).mono ?_
 rintro e w1 ⟨v,rfl,hv,hb⟩
 obtain ⟨x,c,rfl⟩:=ownsRow_is hv
 have hrow:=fun j (hj:j < L.length)=>rowK_get hv j hj
 have HB:=hid hb
 have HR:=hid hrow
 obtain ⟨n,hn⟩:∃ n,n = L.length:=⟨_,rfl⟩
 have HN:=hid hn
 rw [←hn]
 have hn9:n≤900001:=by have:=HLN.out;have:=HLL.out;omega
 clear hv hb hrow hn
 go_wp2
 have e0:(⟨#[]⟩:ByteArray) = tx (L.take 0).flatten:=rfl
 rw [e0]
 clear e0
 generalize hZ:tx (L.take 0).flatten = Z
 have HZ:=hid hZ
 clear hZ
 go_loopw [3,5] (fun t i wr=>∃ (j:Nat) (S:ByteArray),i = .int .i64 (j:Int)∧j≤n∧t = .string S∧Hid (S = tx (L.take j).flatten)∧w1 = wr) (fun _ i _=>n - (intOf i).toNat)
 case atStart=>exact ⟨0,Z,rfl,Nat.zero_le _,rfl,hid HZ.out.symm,rfl⟩
 case round=>
  obtain ⟨j,S,rfl,hj,rfl,HS,rfl⟩:=hrel
  have i1:(0:Int)≤(j:Int):=by omega
  by_cases hlt:j < n
  ·have i2:(j:Int) < (n:Int):=by omega
   obtain ⟨g,rfl,hg,hcap,hget⟩:=HR.out j (by have:=HN.out;omega)
   have ce:=hget j (by have:=HN.out;omega)
   have HF:=hid (flatten_take L j (by have:=HN.out;omega))
   have hsz:S.size≤57600064:=by
    rw [HS.out,tx_sizeK]
    have h1:=flat_short (L.take j) (fun c hc=>HSH.out c (List.mem_of_mem_take hc))
    simp at h1 ⊢
    omega
   have hx64:(tx (L.getD j [])).size≤64:=by rw [tx_sizeK];exact getD_lenK HSH.out j
   obtain ⟨X,hX⟩:∃ X,X = tx (L.getD j []):=⟨_,rfl⟩
   have HX:=hid hX
   rw [←hX] at ce hx64
   clear hX hget hg
   go_wp2
   go_roundw
   case rel=>exact ⟨j + 1,_,by go_num,by omega,rfl,hid (by rw [HF.out,HS.out,HX.out];apply ByteArray.ext;simp [tx]),by trivial⟩
   case measure=>simp [intOf];omega
  ·have i2:¬ (j:Int) < (n:Int):=by omega
   have hE:S = tx (cleanS l):=by rw [HS.out,HV.out,List.take_of_length_le (by have:=HN.out;omega)]
   have HE:=hid hE
   clear hE
   go_wp2
   go_ret
   exact ⟨ret_str HE.out,HB.out⟩
theorem rflat (l:Bs) (hl:l.length≤900000) (w:World):Calls Tryz.prog 55 #[.string (tx l)] w fun e w'=>e = .returned (.string (tx (flatS l)))∧Below w.heap.size w w':=by
 obtain ⟨cap,W1,hcv,hcap,hfb,hbl,hsz⟩:=conv_bytes2 w l
 have HCL:=hid (fun W=>rclean (l.map flatB) (by simpa using hl) W)
 have HLL:=hid hl
 obtain ⟨q,hq⟩:∃ q,q = w.heap.size:=⟨_,rfl⟩
 rw [←hq] at hcv hfb hbl
 have HQ:=hid hq
 have H1:Hid (FB W1 q (part l 0)∧Below q w W1):=hid ⟨hfb,hbl⟩
 obtain ⟨T,hT⟩:∃ T,T = tx l:=⟨_,rfl⟩
 rw [←hT] at hcv ⊢
 obtain ⟨n,hn⟩:∃ n,n = l.length:=⟨_,rfl⟩
 have HN:=hid hn
 rw [←hn] at hcv hcap hl
 clear hT hfb hbl hsz hq hn
 go_enter Tryz.func55,Tryz.ntmps55
 go_wp2
 go_loopw [4] (fun i wr=>∃ k:Nat,i = .int .i64 k∧k≤n∧Hid (FB wr q (part l k)∧Below q w wr)) (fun i _=>n - (intOf i).toNat)
 case atStart=>exact ⟨0,rfl,by omega,H1⟩
 case round=>
  clear H1 hcv
  obtain ⟨k,rfl,hk,HS⟩:=hrel
  by_cases hlt:k < n
  ·have hkl:k < l.length:=by have:=HN.out;omega
   have c1:=HS.out.1.at_ k (by rw [part_len];exact hkl)
   have f1:=HS.out.1.fr k (by rw [part_len];exact hkl)
   rw [part_at l k hkl] at c1
   obtain ⟨c,hc⟩:∃ c,c = l.getD k 0:=⟨_,rfl⟩
   have HST:=hid (part_step l k hkl)
   have HSM:=hid (part_same l k hkl)
   have HSE:=hid (HS.out.1.set k (by rw [part_len];exact hkl) 32)
   rw [←hc] at c1 HST HSM
   clear hc
   have i1:(0:Int)≤(k:Int):=by omega
   have i2:(k:Int) < (n:Int):=by omega
   by_cases h9:c = 9∨c = 10∨c = 13
   ·have hf:flatB c = 32:=by unfold flatB;rw [if_pos h9]
    have HNX:Hid (FB (wr.setCell ⟨q,k,none⟩ (.int .u8 32)) q (part l (k + 1))∧Below q w (wr.setCell ⟨q,k,none⟩ (.int .u8 32))):=hid ⟨by rw [←HST.out,hf];exact HSE.out,HS.out.2.setCell (p:=⟨q,k,none⟩) (Nat.le_refl _) _⟩
    clear HST HSM HSE hf
    rcases h9 with e | e | e
    all_goals
     subst e
     go_wp2
     go_roundw
     case rel=>exact ⟨k + 1,by go_num,by omega,HNX⟩
     case measure=>simp [intOf];omega
   ·have hf:flatB c = c:=by unfold flatB;rw [if_neg h9]
    have HNX:Hid (FB wr q (part l (k + 1))∧Below q w wr):=hid ⟨by rw [HSM.out hf];exact HS.out.1,HS.out.2⟩
    have nt:∀ d:UInt8,c≠d→((c.toNat:Int) == (d.toNat:Int)) = false:=fun d hd=>by
     rw [beq_eq_false_iff_ne]
     intro q
     exact hd (UInt8.toNat_inj.1 (by omega))
    have b1:((c.toNat:Int) == 9) = false:=nt 9 (fun e=>h9 (.inl e))
    have b2:((c.toNat:Int) == 10) = false:=nt 10 (fun e=>h9 (.inr (.inl e)))
    have b3:((c.toNat:Int) == 13) = false:=nt 13 (fun e=>h9 (.inr (.inr e)))
    clear HST HSM HSE hf nt h9
    go_wp2
    go_roundw
    case rel=>exact ⟨k + 1,by go_num,by omega,HNX⟩
    case measure=>simp [intOf];omega
  ·obtain rfl:k = n:=by omega
   have hM:part l k = l.map flatB:=by unfold part;rw [HN.out];simp
   have hcv2:(convert 110 9 (.slice (some ⟨q,0,none⟩) k cap)).run Tryz.prog wr = .ok (.string (tx (l.map flatB))) wr:=by
    have h:=run_convert_bytes_back wr 110 9 5 ⟨q,0,none⟩ cap (l.map flatB) Tryz.underlying110 Tryz.underlying5 Tryz.underlying9 (fun j hj=>by
     have h4:(⟨q,0,none⟩:Addr).add j = ⟨q,j,none⟩:=by by_cases e:j = 0 <;> simp [Addr.add,e]
     have h5:=HS.out.1.at_ j (by rw [hM];exact hj)
     rw [hM,List.getD_eq_getElem?_getD,List.getElem?_eq_getElem hj] at h5
     rw [h4]
     exact h5)
    rw [List.length_map,←HN.out] at h
    exact h
   obtain ⟨T2,hT2⟩:∃ T2,T2 = tx (l.map flatB):=⟨_,rfl⟩
   rw [←hT2] at hcv2 HCL
   clear hT2 hM
   go_wp2_with (first | (go_at_call 77;fail))
   go_at_call 77
   refine (HCL.out _).mono ?_
   rintro e w3 ⟨rfl,hb3⟩
   have hB:=HS.out.2
   rw [HQ.out] at hB
   have HB3:=hid (hB.trans (below_le hb3 hB.size))
   clear hb3 hB hcv2
   go_wp2
   go_ret
   exact ⟨rfl,HB3.out⟩
end Go.Proofs.YtpcbamcelpcigaaGreat
namespace Go.Proofs.YtpcbamcelpcigaaGreat
open Go.RowKit Go.Shelf
attribute [local go_sem] run_store_float
theorem rTypeOfK (k:Int) (w:World):Calls Tryz.prog 19 #[.int .i64 k] w fun e w'=>e = .returned (.int .i64 (tyK k))∧w = w':=by
 rcases tyK_cases k with ⟨rfl,h⟩ | ⟨rfl,h⟩ | ⟨rfl,h⟩ | ⟨rfl,h⟩ | ⟨rfl,h⟩ | ⟨rfl,h⟩ | ⟨rfl,h⟩ | ⟨rfl,h⟩ | ⟨rfl,h⟩ | ⟨hk,h⟩
 all_goals rw [h];clear h
 case inr.inr.inr.inr.inr.inr.inr.inr.inr=>
  obtain ⟨b1,b2,b3,b4,b5,b6,b7,b8,b9⟩:=no_kind hk
  clear hk
  go_enter Tryz.func19,Tryz.ntmps19
  go_wp2
  go_ret
  exact ⟨rfl,rfl⟩
 all_goals
  go_enter Tryz.func19,Tryz.ntmps19
  go_wp2
  go_ret
  exact ⟨rfl,rfl⟩
theorem rLists (k:Int) (w:World):Calls Tryz.prog 59 #[.int .i64 k] w fun e w'=>e = .returned (.bool (listK k))∧w = w':=by
 unfold listK
 by_cases h6:k = 6
 ·subst h6
  go_enter Tryz.func59,Tryz.ntmps59
  go_wp2
  go_ret
  exact ⟨rfl,rfl⟩
 by_cases h7:k = 7
 ·subst h7
  go_enter Tryz.func59,Tryz.ntmps59
  go_wp2
  go_ret
  exact ⟨rfl,rfl⟩
 by_cases h8:k = 8
 ·subst h8
  go_enter Tryz.func59,Tryz.ntmps59
  go_wp2
  go_ret
  exact ⟨rfl,rfl⟩
 have h:decide (k = 6∨k = 7∨k = 8) = false:=by simp [h6,h7,h8]
 have b6:(k == 6) = false:=by simpa using h6
 have b7:(k == 7) = false:=by simpa using h7
 have b8:(k == 8) = false:=by simpa using h8
 rw [h]
 clear h h6 h7 h8
 go_enter Tryz.func59,Tryz.ntmps59
 go_wp2
 go_ret
 exact ⟨rfl,rfl⟩
theorem rrule (L:List Bnd) (hL:L.length≤1000000) (vb:Value) (s:Bs) (hs:s.length≤900000) (w:World) (hb:BndV w vb L) :
  Calls Tryz.prog 37 #[.string (tx s),vb] w fun e w'=>e = .returned (.int .i64 (truthE L s:Nat))∧Below w.heap.size w w':=by
 have HP:=hid (rparse s (by omega) w)
 have HTY:=hid (fun (A:Nat→Prop) v W (h:NodeV A W v (parseP s).1) (k:BndV W vb L)=>rtypeOf L hL vb (parseP s).1 A v W (by have:=parse_size s;omega) h k)
 have HBV:=hid hb
 obtain ⟨bx,bn,bc,rfl⟩:=hb.agg
 obtain ⟨R,hR⟩:∃ R,R = truthE L s:=⟨_,rfl⟩
 rw [←hR]
 unfold truthE at hR
 unfold ParseEnd at HP
 generalize tyP L (parseP s).1 = T at hR HTY
 generalize parseP s = Q at hR HP HTY
 obtain ⟨Q1,Q2⟩:=Q
 obtain ⟨T1,T2⟩:=T
 simp only at hR HP HTY
 have HR:=hid hR
 clear hb hL hs hR
 go_enter Tryz.func37,Tryz.ntmps37
 go_wp2_with (first | (go_at_call 57;fail))
 go_at_call 57
 refine (HP.out).mono ?_
 rintro e w2 ⟨v2,rfl,hv2,hb2⟩
 obtain ⟨o,n,s',x,k,c,rfl⟩:=hv2.agg
 have hal:Below w2.heap.size w2 (w2.alloc (.cells #[.string o,.float .f64 n,.string s',.slice x k c] 87)):=(Below.refl _ _).alloc (Nat.le_refl _) _
 have HB3:=hid (hb2.trans (below_le hal hb2.size))
 have HN3:=hid (hv2.below hal)
 clear hb2 hv2 hal HP
 by_cases q:Q2 = 0
 ·subst q
  have HR1:Hid (R = if T2≠0 then T2 else if T1≠3 then 190 else 0):=hid (by rw [HR.out,if_neg (by simp)])
  clear HR
  go_wp2_with (first | (go_at_call 58;fail))
  go_at_call 58
  refine (HTY.out _ _ _ HN3.out (HBV.out.below HB3.out)).mono ?_
  rintro e w5 ⟨rfl,hb5⟩
  have HB5:=hid (HB3.out.trans (below_le hb5 HB3.out.size))
  clear hb5
  by_cases q2:T2 = 0
  ·subst q2
   by_cases q3:T1 = 3
   ·have HR2:Hid (R = 0):=hid (by rw [HR1.out,if_neg (by simp),if_neg (by simp [q3])])
    subst q3
    clear HR1
    go_wp2
    go_ret
    exact ⟨by rw [HR2.out];rfl,HB5.out⟩
   ·have HR2:Hid (R = 190):=hid (by rw [HR1.out,if_neg (by simp),if_pos q3])
    have q4:((T1:Int) != 3) = true:=by simpa using (show ¬ ((T1:Int) = 3) by omega)
    clear HR1
    go_wp2
    go_ret
    exact ⟨by rw [HR2.out];rfl,HB5.out⟩
  ·have HR2:Hid (R = T2):=hid (by rw [HR1.out,if_pos q2])
   have q4:((T2:Int) != 0) = true:=by simpa using (show ¬ ((T2:Int) = 0) by omega)
   clear HR1
   go_wp2
   go_ret
   exact ⟨by rw [HR2.out];rfl,HB5.out⟩
 ·have HR1:Hid (R = Q2):=hid (by rw [HR.out,if_pos q])
  have q4:((Q2:Int) != 0) = true:=by simpa using (show ¬ ((Q2:Int) = 0) by omega)
  clear HR
  go_wp2
  go_ret
  exact ⟨by rw [HR1.out];rfl,HB3.out⟩
theorem rbind (f:Fld) (xo:Option Addr) (co:Nat) (xl:Option Addr) (cl:Nat) (w:World) :
  Calls Tryz.prog 36 #[(f.fl xo co xl cl).v] w fun e w'=>e = .returned (bndV (bndF f))∧Below w.heap.size w w':=by
 obtain ⟨R,hR⟩:∃ R,R = bndV (bndF f):=⟨_,rfl⟩
 rw [←hR]
 obtain ⟨F,hF⟩:∃ F,F = f.fl xo co xl cl:=⟨_,rfl⟩
 have HTY:Hid (∀ W,Calls Tryz.prog 19 #[.int .i64 F.k] W fun e w'=>e = .returned (.int .i64 (tyK f.k:Nat))∧W = w'):=hid (by rw [hF];exact fun W=>rTypeOfK f.k W)
 have HR:Hid (R = .agg #[.string F.nm,.int .i64 (tyK f.k:Nat),.float .f64 0,.string ⟨#[]⟩,.bool false]):=hid (by rw [hF,hR];rfl)
 rw [←hF]
 clear hR hF
 unfold FL.v
 obtain ⟨B1,hB1⟩:∃ W1,W1 = (w.alloc (.cells F.a 42)).alloc (.cells #[.string ⟨#[]⟩,.int .i64 0,.float .f64 0,.string ⟨#[]⟩,.bool false] 65):=⟨_,rfl⟩
 have hbl:Below w.heap.size w B1:=by rw [hB1];exact ((Below.refl _ _).alloc (Nat.le_refl _) _).alloc (by simp) _
 have HFB:Hid (FLB B1 w.heap.size F):=hid (by rw [hB1];exact (heap_alloc_old _ _ (by simp)).trans (heap_alloc_new _ _))
 have HBB:Hid (B1.heap[w.heap.size + 1]? = some (.cells #[.string ⟨#[]⟩,.int .i64 0,.float .f64 0,.string ⟨#[]⟩,.bool false] 65 (0,0))):=hid (by rw [hB1];exact heap_at (heap_alloc_new _ _) (by simp))
 unfold FL.a at hB1 ⊢
 have HBL:=hid hbl
 clear hbl
 go_enter Tryz.func36,Tryz.ntmps36
 go_upto_region 1 with (fail)
 rw [←hB1]
 obtain ⟨c0,c1,_⟩:=HFB.out.cells
 have k0:B1.drew.cell? ⟨w.heap.size,0,none⟩ = some (.int .i64 F.k):=c0
 have k1:B1.drew.cell? ⟨w.heap.size,1,none⟩ = some (.string F.nm):=c1
 have HBD:Hid (B5 B1 (w.heap.size + 1) 65 (.string ⟨#[]⟩) (.int .i64 0) (.float .f64 0) (.string ⟨#[]⟩) (.bool false)):=HBB
 obtain ⟨d0,d1,d2,d3,d4⟩:=HBD.out.cells
 have f0:=HBD.out.fr 0
 have f1:=HBD.out.fr 1
 have f2:=HBD.out.fr 2
 have f3:=HBD.out.fr 3
 have f4:=HBD.out.fr 4
 have HEN:Hid (Below w.heap.size w (put5 B1 (w.heap.size + 1) (.string F.nm) (.int .i64 (tyK f.k:Nat)) (.float .f64 0) (.string ⟨#[]⟩) (.bool false)).drew):=hid (below_put5 HBL.out (Nat.le_succ w.heap.size) _ _ _ _ _).drew
 have HBP:Hid ((put5 B1 (w.heap.size + 1) (.string F.nm) (.int .i64 (tyK f.k:Nat)) (.float .f64 0) (.string ⟨#[]⟩) (.bool false)).drew.heap[w.heap.size + 1]? = some (.cells #[.string F.nm,.int .i64 (tyK f.k:Nat),.float .f64 0,.string ⟨#[]⟩,.bool false] 65 (0,0))):=hid HBD.out.put
 unfold put5 at HEN HBP
 clear hB1 c0 c1 HBB
 go_region_with (go_at_call 19;refine (HTY.out _).mono ?_;rintro e w2 ⟨rfl,rfl⟩)
 all_goals
  go_wp2
  refine bodyPost_ret (bind_end rfl _ _ (w.heap.size + 1) _ _ _ _ _ rfl HBP.out) rfl ⟨by rw [HR.out],HEN.out⟩
theorem rLabel (l:Bs) (hl:l.length≤900000) (w:World):Calls Tryz.prog 34 #[.string (tx l)] w fun e w'=>e = .returned (.bool (labelP l))∧Below w.heap.size w w':=by
 have HF:=hid (fun W=>rflat l hl W)
 have HC:=hid (fun W=>rcut l hl W)
 have HW:=hid (fun W=>rwithin (cutS l).length 1 64 W)
 have HE:=hid (tx_beq (flatS l) l)
 unfold CutEnd at HC
 unfold labelP flatP
 generalize decide ((1:Int)≤((cutS l).length:Int)∧((cutS l).length:Int)≤64) = B at HW ⊢
 cases hd:decide (flatS l = l)
 ·rw [hd] at HE
  have HE2:=HE.out
  go_enter Tryz.func34,Tryz.ntmps34
  go_wp2_with (first | (go_at_call 55;refine (HF.out _).mono ?_;rintro e w1 ⟨rfl,hb1⟩))
  go_ret
  exact ⟨rfl,hb1⟩
 ·rw [hd] at HE
  have HE2:=HE.out
  go_enter Tryz.func34,Tryz.ntmps34
  go_wp2_with (first | (go_at_call 55;refine (HF.out _).mono ?_;rintro e w1 ⟨rfl,hb1⟩) | (go_at_call 56;fail))
  go_at_call 56
  refine (HC.out _).mono ?_
  rintro e w2 ⟨v,rfl,ho,hb2⟩
  obtain ⟨x,cap,rfl⟩:=ownsRow_is ho
  have HB:=hid (hb1.trans (below_le hb2 hb1.size))
  clear ho hb1 hb2 HC HF
  generalize (cutS l).length = n at HW ⊢
  go_wp2_with (first | (go_at_call 33;refine (HW.out _).mono ?_;rintro e w3 ⟨rfl,rfl⟩))
  go_ret
  exact ⟨by simp,HB.out⟩
theorem signA_zero {l:Bs}:signA l 0 = ltrA (l.getD 0 0):=by unfold signA;simp
theorem bne_of {a b:List UInt8} {c:Bool} (h:(a == b) = c):(a != b) = !c:=by rw [bne,h]
theorem rName (l : Bs) (w : World) : Calls Tryz.prog 17 #[.string (tx l)] w fun e w' => e = .returned (.bool (nameP l)) ∧ w = w' := by
  have HS := hid (tx_size' l)
  have HT := hid (fun i (hi : i < l.length) => tx_at l i hi)
  have HW : Hid (∀ W, Calls Tryz.prog 33 #[.int .i64 ((tx l).size : Nat), .int .i64 1, .int .i64 16] W fun e w' => e = .returned (.bool (decide (1 ≤ l.length ∧ l.length ≤ 16))) ∧ W = w') := hid (fun W => by
    have h := rwithin ((tx l).size : Nat) 1 16 W
    rw [tx_size'] at h ⊢
    rw [show decide (1 ≤ l.length ∧ l.length ≤ 16) = decide ((1 : Int) ≤ (l.length : Int) ∧ (l.length : Int) ≤ 16) from by rw [decide_eq_decide]; omega]
    exact h)
  cases hd : decide (1 ≤ l.length ∧ l.length ≤ 16)
  · rw [hd] at HW
    rw [name_len hd]
    clear hd
    go_enter Tryz.func17, Tryz.ntmps17
    go_wp2_with (first | (go_at_call 33; refine (HW.out _).mono ?_; rintro e w1 ⟨rfl, rfl⟩))
    go_ret
    exact ⟨rfl, rfl⟩
  · rw [hd] at HW
    have HBAD := hid (fun i (hi : i < l.length) (h : signA l i = false) => name_bad hi h)
    have HEND := hid (fun (h : ∀ i, i < l.length → signA l i = true) => name_end hd h)
    have HLN : Hid (1 ≤ l.length ∧ l.length ≤ 16) := hid (by simp at hd; omega)
    obtain ⟨R, hR⟩ : ∃ R, R = nameP l := ⟨_, rfl⟩
    rw [← hR] at HBAD HEND ⊢
    clear hd hR
    have hz0 : 0 < (tx l).size := by have := HS.out; have := HLN.out; omega
    have hx0 := HT.out 0 (by have := HLN.out; omega)
    obtain ⟨c0, hc0⟩ : ∃ c, c = l.getD 0 0 := ⟨_, rfl⟩
    rw [← hc0] at hx0
    have HS0 : Hid (signA l 0 = ltrA c0) := hid (by rw [signA_zero, ← hc0])
    have HL0 : Hid (ltrA c0 = decide (97 ≤ c0.toNat ∧ c0.toNat ≤ 122)) := hid rfl
    clear hc0
    by_cases u1 : (c0.toNat : Int) < 97
    · have HR := hid (HBAD.out 0 (by have := HLN.out; omega) (by rw [HS0.out, HL0.out, decide_eq_false_iff_not]; omega))
      clear HBAD HEND
      go_enter Tryz.func17, Tryz.ntmps17
      go_wp2_with (first | (go_at_call 33; refine (HW.out _).mono ?_; rintro e w1 ⟨rfl, rfl⟩))
      go_ret
      exact ⟨ret_bool HR.out.symm, rfl⟩
    by_cases u2 : (122 : Int) < c0.toNat
    · have HR := hid (HBAD.out 0 (by have := HLN.out; omega) (by rw [HS0.out, HL0.out, decide_eq_false_iff_not]; omega))
      clear HBAD HEND
      go_enter Tryz.func17, Tryz.ntmps17
      go_wp2_with (first | (go_at_call 33; refine (HW.out _).mono ?_; rintro e w1 ⟨rfl, rfl⟩))
      go_ret
      exact ⟨ret_bool HR.out.symm, rfl⟩
    have HT0 : Hid (signA l 0 = true) := hid (by rw [HS0.out, HL0.out, decide_eq_true_iff]; omega)
    have HSN : Hid (∀ j, j < l.length → (ltrA (l.getD j 0) || othA (l.getD j 0)) = signA l j) := hid (fun j hj => by
      by_cases e : j = 0
      · subst e
        have h1 := HT0.out
        rw [signA_zero] at h1
        rw [h1, HT0.out]; rfl
      · unfold signA
        rw [decide_eq_true e, Bool.true_and])
    clear HS0 HL0 HT0
    go_enter Tryz.func17, Tryz.ntmps17
    go_wp2_with (first | (go_at_call 33; refine (HW.out _).mono ?_; rintro e w1 ⟨rfl, rfl⟩))
    clear hx0 hz0 u1 u2 HW
    go_loop [3] (fun i => ∃ j : Nat, i = .int .i64 j ∧ j ≤ l.length ∧ Hid (∀ i, i < j → signA l i = true)) (fun i => l.length - (intOf i).toNat)
    case atStart => exact ⟨0, rfl, Nat.zero_le _, hid (fun i hi => absurd hi (by omega))⟩
    case round =>
      obtain ⟨j, rfl, hj, hc⟩ := hrel
      have jl : j ≤ 1000000 := by have := HLN.out; omega
      by_cases q1 : j < (tx l).size
      · have q1' : j < l.length := by have := HS.out; omega
        have hx := HT.out j q1'
        have HSG := hid (HSN.out j q1')
        obtain ⟨c, hcd⟩ : ∃ c, c = l.getD j 0 := ⟨_, rfl⟩
        rw [← hcd] at hx HSG
        clear hcd
        rcases sign_cases c with ⟨t1, t2, t3, t4, t5, ha, hb⟩ | ⟨t1, t2, t3, t4, t5, ha, hb⟩ | ⟨t1, t2, t3, t4, t5, ha, hb⟩ | ⟨t1, t2, t3, t4, t5, ha, hb⟩ | ⟨t1, t2, t3, t4, t5, ha, hb⟩ | ⟨t1, t2, t3, t4, t5, ha, hb⟩
        all_goals rw [ha, hb] at HSG; clear ha hb
        all_goals
          first
            | (have HSG2 : Hid (signA l j = false) := hid HSG.out.symm
               have HR : Hid (R = false) := hid (HBAD.out j q1' HSG2.out)
               clear HBAD HSN HSG HEND
               go_wp2
               go_ret
               exact ⟨ret_bool HR.out.symm, rfl⟩)
            | (have HN := hid (fun i (hi : i < j + 1) => show signA l i = true from by
                 rcases Nat.lt_or_ge i j with z | z
                 · exact hc.out i z
                 · obtain rfl : i = j := (by omega)
                   exact HSG.out.symm)
               clear HSG
               go_wp2
               go_round
               case rel => exact ⟨j + 1, by go_num, by omega, hid HN.out⟩
               case measure => simp [intOf]; omega)
      · have HR := hid (HEND.out (fun i hi => hc.out i (by have := HS.out; omega)))
        clear HEND HBAD HSN hc
        rcases kw_cases l with ⟨hk, b1⟩ | ⟨hk, b1, b2⟩ | ⟨hk, b1, b2, b3⟩ | ⟨hk, b1, b2, b3, b4⟩ | ⟨hk, b1, b2, b3, b4, b5⟩ | ⟨hk, b1, b2, b3, b4, b5, b6⟩ | ⟨hk, b1, b2, b3, b4, b5, b6⟩
        case inr.inr.inr.inr.inr.inr =>
          have HR2 : Hid (R = true) := hid (by rw [HR.out]; simpa using hk)
          have n1 := bne_of b1
          have n2 := bne_of b2
          have n3 := bne_of b3
          have n4 := bne_of b4
          have n5 := bne_of b5
          have n6 := bne_of b6
          clear hk HR
          go_wp2
          go_ret
          exact ⟨ret_bool HR2.out.symm, rfl⟩
        all_goals
          have HR2 : Hid (R = false) := hid (by rw [HR.out]; simpa using hk)
          have n1 := bne_of b1
          (try have n2 := bne_of b2)
          (try have n3 := bne_of b3)
          (try have n4 := bne_of b4)
          (try have n5 := bne_of b5)
          (try have n6 := bne_of b6)
          clear hk HR
          go_wp2
          go_ret
          exact ⟨ret_bool HR2.out.symm, rfl⟩
end Go.Proofs.YtpcbamcelpcigaaGreat
