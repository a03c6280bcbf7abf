/- Own texts, merged. -/
import Derived.WalkKit
import Derived.Deep.RegionHeld3
import Derived.Test.YtpcbamcelpcigaaGreatMC13
import Derived.Test.YtpcbamcelpcigaaGreatMC14
import Derived.Test.YtpcbamcelpcigaaGreatMC30
import Derived.Test.YtpcbamcelpcigaaGreatMC34
import Derived.Test.YtpcbamcelpcigaaGreatMC00
set_option maxRecDepth 100000
set_option maxHeartbeats 32000000
open Go.Lib (hid)
namespace Go.Proofs.YtpcbamcelpcigaaGreat
open Go.RowKit Go.Shelf
theorem getD_at {L:List Bs} {i:Nat} (h:i < L.length):L.getD i [] = L[i]:=by rw [List.getD_eq_getElem?_getD,List.getElem?_eq_getElem h];rfl
theorem opts_dup {L:List Bs} {i k:Nat} (hi:i < L.length) (hk:k < i) (h:L.getD k [] = L.getD i []):optsP L = false:=by
 unfold optsP
 have:¬ L.Nodup:=fun hn=>by
  have:=List.pairwise_iff_getElem.1 hn k i (by omega) hi hk
  rw [getD_at (by omega),getD_at hi] at h
  exact this h
 rw [decide_eq_false this]
 simp
theorem opts_all {L:List Bs} (h0:decide (1≤L.length∧L.length≤256) = true) (h:∀ i,i < L.length→labelP (L.getD i []) = true∧∀ k,k < i→L.getD k []≠L.getD i []):optsP L = true:=by
 unfold optsP
 have h1:L.all labelP = true:=by
  rw [List.all_eq_true]
  intro x hx
  obtain ⟨i,hi,e⟩:=List.mem_iff_getElem.1 hx
  have:=(h i hi).1
  rw [getD_at hi,e] at this
  exact this
 have h2:L.Nodup:=List.pairwise_iff_getElem.2 (fun k i hk hi hki=>by
  have:=(h i hi).2 k hki
  rw [getD_at hk,getD_at hi] at this
  exact this)
 rw [h0,h1,decide_eq_true h2]
 rfl
theorem roptions (L:List Bs) (hL:L.length≤1000) (hs:∀ i,i < L.length→(L.getD i []).length≤900000) (x:Option Addr) (c:Nat) (w:World) (h:TxV w (.slice x L.length c) L) :
  Calls Tryz.prog 60 #[.slice x L.length c] w fun e w'=>e = .returned (.bool (optsP L))∧Below w.heap.size w w':=by
 have HV:=hid h
 have HLB:=hid (fun i (hi:i < L.length) W=>rLabel (L.getD i []) (hs i hi) W)
 have HW:Hid (∀ W,Calls Tryz.prog 33 #[.int .i64 (L.length:Nat),.int .i64 1,.int .i64 256] W fun e w'=>e = .returned (.bool (decide (1≤L.length∧L.length≤256)))∧W = w'):=hid (fun W=>by
  have h:=rwithin (L.length:Nat) 1 256 W
  rw [show decide (1≤L.length∧L.length≤256) = decide ((1:Int)≤(L.length:Int)∧(L.length:Int)≤256) from by rw [decide_eq_decide];omega]
  exact h)
 have HOL:=hid (fun i (hi:i < L.length) (h:labelP (L.getD i []) = false)=>opts_label hi h)
 have HOD:=hid (fun i k (hi:i < L.length) (hk:k < i) h=>opts_dup hi hk h)
 have HOL0:=hid (fun h=>opts_len (L:=L) h)
 have HOA:=hid (fun h0 h=>opts_all (L:=L) h0 h)
 obtain ⟨R,hR⟩:∃ R,R = optsP L:=⟨_,rfl⟩
 rw [←hR] at HOL HOD HOL0 HOA ⊢
 obtain ⟨n,hn⟩:∃ n,n = L.length:=⟨_,rfl⟩
 rw [←hn] at HV HLB HW HOL HOD HOL0 HOA hL ⊢
 have HN:=hid hn
 clear hR hn h hs
 cases hd:decide (1≤n∧n≤256)
 ·rw [hd] at HW
  have HR:=hid (HOL0.out hd)
  clear hd HOL HOD HOL0 HOA
  go_enter Tryz.func60,Tryz.ntmps60
  go_wp2_with (first | (go_at_call 33;refine (HW.out _).mono ?_;rintro e w1 ⟨rfl,rfl⟩))
  go_ret
  exact ⟨ret_bool HR.out.symm,Below.refl _ _⟩
 ·rw [hd] at HW
  have HOE:=hid (HOA.out hd)
  have hn1:1≤n∧n≤256:=by simpa using hd
  obtain ⟨xx,cc,hxc,hcap,_,hgx⟩:=HV.out.old
  have hcap2:n≤c:=by
   have e:xx = x∧c = cc:=by simp at hxc;exact ⟨hxc.1.symm,hxc.2.2⟩
   rw [e.2,HN.out];exact hcap
  obtain ⟨g,o,rfl⟩:∃ g o,x = some ⟨g,o,none⟩:=by
   have e:xx = x:=by simp at hxc;exact hxc.1.symm
   obtain ⟨g,o,h1,_⟩:=hgx (by intro e;have:=HN.out;rw [e] at this;simp at this;omega)
   exact ⟨g,o,by rw [←e];exact h1⟩
  have HG:Hid (∀ W,TxV W (.slice (some ⟨g,o,none⟩) n c) L→∀ i,i < n→W.cell? ⟨g,o + i,none⟩ = some (.string (tx (L.getD i [])))):=hid (fun W hW i hi=>by
   obtain ⟨x2,c2,he,_,_,hg⟩:=hW.old
   obtain ⟨g2,o2,h1,_,h2⟩:=hg (by intro e;have:=HN.out;rw [e] at this;simp at this;omega)
   rw [h1] at he
   obtain ⟨⟨rfl,rfl⟩,_⟩:(g = g2∧o = o2)∧c = c2:=by simp at he;exact ⟨he.1,he.2.2⟩
   exact h2 i (by rw [←HN.out];exact hi))
  clear hd HOL0 HOA hxc hcap hgx
  go_enter Tryz.func60,Tryz.ntmps60
  go_wp2_with (first | (go_at_call 33;refine (HW.out _).mono ?_;rintro e w1 ⟨rfl,rfl⟩))
  go_loopw [3,4] (fun i kk wr=>∃ j:Nat,i = .int .i64 j∧j≤n∧Hid ((∀ i,i < j→labelP (L.getD i []) = true∧∀ k,k < i→L.getD k []≠L.getD i [])∧Below w.heap.size w wr)) (fun i _ _=>n - (intOf i).toNat)
  case atStart=>exact ⟨0,rfl,Nat.zero_le _,hid ⟨fun i hi=>absurd hi (by omega),Below.refl _ _⟩⟩
  case round=>
   obtain ⟨j,rfl,hj,HI⟩:=hrel
   by_cases hlt:j < n
   ·have ck:=HG.out wr (HV.out.below HI.out.2) j hlt
    have i1:(0:Int)≤(j:Int):=by omega
    have i2:(j:Int) < (n:Int):=by omega
    have HLK:=hid (fun W=>HLB.out j hlt W)
    have HBK:=hid (HOL.out j hlt)
    have HDK:=hid (fun k hk=>HOD.out j k hlt hk)
    have HBW:=hid HI.out.2
    obtain ⟨B,hB⟩:∃ B,B = labelP (L.getD j []):=⟨_,rfl⟩
    have HBE:=hid hB
    rw [←hB] at HLK HBK
    clear hB
    cases B
    ·have HR:=hid (HBK.out rfl)
     generalize tx (L.getD j []) = T at ck HLK
     clear HBK HI HLB HOL HOD HOE HG HV HW HDK HBE
     go_wp2_with (first | (go_at_call 34;refine (HLK.out _).mono ?_;rintro e w2 ⟨rfl,hb2⟩))
     go_ret
     exact ⟨ret_bool HR.out.symm,HBW.out.trans (below_le hb2 HBW.out.size)⟩
    ·generalize hT:tx (L.getD j []) = T at ck HLK
     have HT:=hid hT
     clear hT
     go_wp2_with (first | (go_at_call 34;refine (HLK.out _).mono ?_;rintro e w2 ⟨rfl,hb2⟩;have HB2:=hid (HBW.out.trans (below_le hb2 HBW.out.size));clear hb2))
     go_loopw [4] (fun i wq=>∃ k:Nat,i = .int .i64 k∧k≤j∧Hid ((∀ i,i < k→L.getD i []≠L.getD j [])∧Below w.heap.size w wq)) (fun i _=>j - (intOf i).toNat)
     case atStart=>exact ⟨0,rfl,Nat.zero_le _,hid ⟨fun i hi=>absurd hi (by omega),HB2.out⟩⟩
     case round=>
      obtain ⟨k,rfl,hk,HJ⟩:=hrel
      by_cases hkj:k < j
      ·have ca:=HG.out wr (HV.out.below HJ.out.2) k (by omega)
       have cb:=HG.out wr (HV.out.below HJ.out.2) j hlt
       rw [HT.out] at cb
       have k1:(0:Int)≤(k:Int):=by omega
       have k2:(k:Int) < (n:Int):=by omega
       have k3:(k:Int) < (j:Int):=by omega
       have HBD:Hid (∀ d,Below w.heap.size w (wr.drewN d)):=hid (fun d=>HJ.out.2.trans ⟨rfl,rfl,rfl,Nat.le_refl _,fun _ _=>rfl⟩)
       have HPR:=hid HJ.out.1
       have HTE:=hid (tx_beq (L.getD k []) (L.getD j []))
       rw [HT.out] at HTE
       have HD1:=hid (HDK.out k hkj)
       by_cases hab:L.getD k [] = L.getD j []
       ·have HR:=hid (HD1.out hab)
        have ht:=HTE.out
        rw [decide_eq_true hab] at ht
        generalize tx (L.getD k []) = A at ca ht
        clear hab HTE HD1 HPR HJ HI HBK HDK HLB HOL HOD HOE HG HV HW HLK HBE
        go_wp2
        go_quiet (fail)
        go_wp2
        go_ret
        exact ⟨ret_bool HR.out.symm,HBD.out _⟩
       ·have HN2:Hid (∀ i,i < k + 1→L.getD i []≠L.getD j []):=hid (fun i hi=>by
         rcases Nat.lt_or_ge i k with z | z
         ·exact HPR.out i z
         ·obtain rfl:i = k:=by omega
          exact hab)
        have ht:=HTE.out
        rw [decide_eq_false hab] at ht
        generalize tx (L.getD k []) = A at ca ht
        clear hab HTE HD1 HPR HJ
        go_wp2
        go_quiet (fail)
        go_wp2
        go_roundw
        case rel=>exact ⟨k + 1,by go_num,by omega,hid ⟨HN2.out,HBD.out _⟩⟩
        case measure=>simp [intOf];omega
      ·obtain rfl:k = j:=by omega
       have HN2:Hid (∀ i,i < k + 1→labelP (L.getD i []) = true∧∀ q,q < i→L.getD q []≠L.getD i []):=hid (fun i hi=>by
        rcases Nat.lt_or_ge i k with z | z
        ·exact HI.out.1 i z
        ·obtain rfl:i = k:=by omega
         exact ⟨HBE.out.symm,HJ.out.1⟩)
       have HBQ:=hid HJ.out.2
       go_wp2
       go_roundw
       case rel=>exact ⟨k + 1,by go_num,by omega,hid ⟨HN2.out,HBQ.out⟩⟩
       case measure=>simp [intOf];omega
   ·obtain rfl:j = n:=by omega
    have HR:=hid (HOE.out (fun i hi=>HI.out.1 i hi))
    have HBQ:=hid HI.out.2
    clear HI HOE HLB HOL HOD HG HV HW
    go_wp2
    go_ret
    exact ⟨ret_bool HR.out.symm,HBQ.out⟩
end Go.Proofs.YtpcbamcelpcigaaGreat
namespace Go.Proofs.YtpcbamcelpcigaaGreat
open Go.RowKit Go.Shelf Ieee
attribute [local go_sem] run_store_float
theorem sub_self_fin {x:Nat} (h:finB x = true):floatBits .sub .f64 x x = some 0:=by
 obtain ⟨m,i,r,_,_⟩:=read_fin x (by simpa [finB] using h)
 have hd:FloatKind.f64.format = double:=rfl
 have e0:double.write (.number false 0 i) = 0:=by
  unfold Format.write
  simp only [Format.nearest,if_true]
  decide
 unfold floatBits
 rw [hd]
 simp only [Format.sub,r,Datum.opposite,Datum.sum]
 have ht:∀ s:Bool,signed s m (i - min i i).toNat + signed (!s) m (i - min i i).toNat = 0:=fun s=>by cases s <;> simp [signed] <;> omega
 have hs:∀ s:Bool,(if signed s m (i - min i i).toNat + signed (!s) m (i - min i i).toNat = 0 then s && !s else decide (signed s m (i - min i i).toNat + signed (!s) m (i - min i i).toNat < 0)) = false:=fun s=>by rw [if_pos (ht s)];cases s <;> rfl
 rw [hs,ht,Int.min_self]
 exact congrArg some e0
theorem sub_self_no {x:Nat} (h:finB x = false):floatBits .sub .f64 x x = none:=by
 by_cases hn:isNan x = true
 ·exact bits_nan _ _ _ (.inl hn)
 ·have hn':isNan x = false:=by simpa using hn
  have h1:¬ rung x < 2047 * 2 ^ 52:=by simpa [finB] using h
  have h2:rung x≤2047 * 2 ^ 52:=by simpa [isNan] using hn'
  have hr:=read_inf x (by omega)
  have hd:FloatKind.f64.format = double:=rfl
  unfold floatBits
  rw [hd]
  simp only [Format.sub,hr,Datum.opposite]
  cases isNeg x <;> rfl
theorem rfinite (x:Nat) (w:World):Calls Tryz.prog 48 #[.float .f64 x] w fun e w'=>e = .returned (.bool (finB x))∧Below w.heap.size w w':=by
 cases h:finB x
 ·have hr:=fun W=>run_float_nan Tryz.prog W .sub (.inr (.inl rfl)) 37 x x (sub_self_no h)
  have ho:(FloatKind.f64.format.order (nanB x x w) 0 == some .eq) = false:=by rw [show FloatKind.f64.format.order (nanB x x w) 0 = none from order_nan _ _ (.inl (nanB_nan x x w))];rfl
  go_enter Tryz.func48,Tryz.ntmps48
  go_wp2
  go_ret
  exact ⟨rfl,(Below.refl _ _).drew⟩
 ·have hr:=fun W=>run_float_arith (P:=Tryz.prog) W .sub 37 .f64 _ _ _ (sub_self_fin h)
  have ho:(FloatKind.f64.format.order 0 0 == some .eq) = true:=by rw [ord_num nan_zero];rfl
  go_enter Tryz.func48,Tryz.ntmps48
  go_wp2
  go_ret
  exact ⟨rfl,Below.refl _ _⟩
theorem rslide (F:FL) (k:Nat) (hl:finB F.lo = true) (hs:finB F.st = true) (hk:k < 2 ^ 53) (w:World):Calls Tryz.prog 43 #[F.v,.int .i64 (k:Nat)] w fun e w'=>e = .returned (.float .f64 (valB F.lo F.st k))∧Below w.heap.size w w':=by
 have h1:floatBits .mul .f64 (floatOfInt .f64 k) F.st = some (prodB F.st k):=(prodB_eq F.st k hs hk).1
 have h2:floatBits .add .f64 F.lo (prodB F.st k) = some (valB F.lo F.st k):=(valB_eq F.lo F.st k hl hs hk).1
 have m:=fun w':World=>run_float_arith (P:=Tryz.prog) w' .mul 37 .f64 _ _ _ h1
 have a:=fun w':World=>run_float_arith (P:=Tryz.prog) w' .add 37 .f64 _ _ _ h2
 have HAL:=hid (fun o=>(Below.refl w.heap.size w).alloc (Nat.le_refl _) o)
 clear h1 h2 hl hs hk
 unfold FL.v FL.a
 go_enter Tryz.func43,Tryz.ntmps43
 go_wp2
 go_ret
 exact ⟨rfl,HAL.out _⟩
theorem sv_bits {a x:Nat} (ha:a < 18446744073709551616) (hx:x < 18446744073709551616) (hr:rung a = rung x) (hn:isNeg a = isNeg x):a = x:=by
 rw [rung_of a ha,rung_of x hx] at hr
 rw [isNeg_of a ha,isNeg_of x hx,decide_eq_decide] at hn
 split at hr <;> split at hr <;> omega
theorem sameN_eq {a x:Nat} (ha:a < 18446744073709551616) (hx:x < 18446744073709551616) (na:isNan a = false) (nx:isNan x = false):sameN a x = decide (a = x):=by
 by_cases e:a = x
 ·rw [e,sameN_self];simp
 ·rw [decide_eq_false e]
  unfold sameN
  rw [if_neg (by simp [na,nx])]
  by_cases q:sv a = sv x
  ·have hv:rung a = rung x∧(rung a≠0→isNeg a = isNeg x):=by
    have hp:∀ r:Nat,r≠0→0 < valN r:=fun r hr=>by
     have:=valN_lt (show 0 < r by omega)
     rw [valN_zero] at this
     exact this
    unfold sv at q
    have h1:valN (rung a) = valN (rung x):=by split at q <;> split at q <;> omega
    refine ⟨valN_inj h1,fun h=>?_⟩
    have:=hp _ h
    split at q <;> split at q <;> first | omega | simp_all
   by_cases z:rung a = 0
   ·have za:a = 0∨a = 9223372036854775808:=by have:=rung_of a ha;rw [z] at this;split at this <;> omega
    have zx:x = 0∨x = 9223372036854775808:=by have:=rung_of x hx;rw [←hv.1,z] at this;split at this <;> omega
    have s0:sgN 0 = false:=by decide
    have s1:sgN 9223372036854775808 = true:=by decide
    have o0:(double.order 0 0 == some .eq) = true:=by decide
    have o1:(double.order 9223372036854775808 0 == some .eq) = true:=by decide
    rcases za with rfl | rfl <;> rcases zx with rfl | rfl
    ·exact absurd rfl e
    ·rw [o0,s0,s1];simp
    ·rw [o1,s0,s1];simp
    ·exact absurd rfl e
   ·exact absurd (sv_bits ha hx hv.1 (hv.2 z)) e
  ·have ho:(double.order a x == some .eq) = false:=by
    rw [order_val a x na nx]
    have:compare (sv a) (sv x)≠.eq:=by
     simp only [compare,compareOfLessAndEq]
     split
     ·simp
     ·simp
    cases hc:compare (sv a) (sv x)
    ·rfl
    ·exact absurd hc this
    ·rfl
   rw [ho]
   rfl
theorem rsame21 (a x:Nat) (na:isNan a = false) (w:World):Calls Tryz.prog 46 #[.float .f64 a,.float .f64 x] w fun e w'=>e = .returned (.bool (sameN a x))∧Below w.heap.size w w':=by
 have HS:=hid (fun W=>rSame ⟨1,a,[],false⟩ ⟨1,x,[],false⟩ W)
 have e1:sameV ⟨1,a,[],false⟩ ⟨1,x,[],false⟩ = sameN a x:=rfl
 rw [e1] at HS
 unfold vlV at HS
 simp only at HS
 have ho:(FloatKind.f64.format.order a a == some .eq) = true:=by rw [ord_num na];rfl
 generalize sameN a x = B at HS ⊢
 clear e1 na
 cases B
 all_goals
  go_enter Tryz.func46,Tryz.ntmps46
  go_wp2_with (first | (go_at_call 26;refine (HS.out _).mono ?_;rintro e w1 ⟨rfl,hb1⟩))
  go_ret
  exact ⟨rfl,hb1⟩
theorem bad_lo {lo hi st:Nat} (h:finB lo = false):stepsBad lo hi st = true:=by unfold stepsBad;rw [h];rfl
theorem bad_hi {lo hi st:Nat} (h:finB hi = false):stepsBad lo hi st = true:=by unfold stepsBad;rw [h];simp
theorem bad_st {lo hi st:Nat} (h:finB st = false):stepsBad lo hi st = true:=by unfold stepsBad;rw [h];simp
theorem rSlides (F:FL) (w:World):Calls Tryz.prog 25 #[F.v] w fun e w'=>e = .returned (.int .i64 (F.sld:Nat))∧Below w.heap.size w w':=by
 obtain ⟨R,hR⟩:∃ R,R = F.sld:=⟨_,rfl⟩
 rw [←hR]
 unfold FL.sld at hR
 have HF1:=hid (fun W=>rfinite F.lo W)
 have HF2:=hid (fun W=>rfinite F.hi W)
 have HF3:=hid (fun W=>rfinite F.st W)
 have HV:=hid (fun (h1:finB F.lo = true) (h2:finB F.st = true) (k:Nat) (hk:k < 2 ^ 53) W=>rslide F k h1 h2 hk W)
 obtain ⟨B1,hB1⟩:∃ W1,W1 = w.alloc (.cells F.a 42):=⟨_,rfl⟩
 have hbl:Below w.heap.size w B1:=by rw [hB1];exact (Below.refl _ _).alloc (Nat.le_refl _) _
 have HFB:Hid (FLB B1 w.heap.size F):=hid (by rw [hB1];exact heap_alloc_new _ _)
 unfold FL.v at HV ⊢
 unfold FL.a at hB1 HV ⊢
 have HBL:=hid hbl
 clear hbl
 obtain ⟨c0,c1,c2,c3,c4,c5,c6,c7,c8,c9,c10,c11,c12,c13,c14,c15⟩:=HFB.out.cells
 have hlt:=HFB.out.lt
 by_cases h9:F.k = 9
 case neg=>
  have HR:Hid (R = 0):=hid (by rw [hR,if_neg h9])
  have ht:(F.k != 9) = true:=by simpa using h9
  clear hR h9 HV HF1 HF2 HF3
  go_enter Tryz.func25,Tryz.ntmps25
  go_wp2
  rw [←hB1]
  go_ret
  exact ⟨by rw [HR.out];rfl,HBL.out⟩
 have ht9:(F.k != 9) = false:=by simpa using h9
 rw [if_pos h9] at hR
 have HR0:Hid (stepsBad F.lo F.hi F.st = true→R = 0):=hid (fun h=>by rw [hR];unfold stepsN;rw [if_pos h])
 have HRAW:Hid (stepsBad F.lo F.hi F.st = false→∀ n,n≤10002→(∀ i,i < n→leB (valB F.lo F.st i) F.hi = true)→(n = 10002∨leB (valB F.lo F.st n) F.hi = false)→R = if 10001 < n then 0 else n):=hid (fun h n h1 h2 h3=>by
  rw [hR]
  unfold stepsN
  rw [h,stepsRaw_eq _ _ _ n h1 h2 h3]
  rfl)
 clear hR h9
 go_enter Tryz.func25,Tryz.ntmps25
 cases f1:finB F.lo
 ·rw [f1] at HF1
  go_wp2_with (first | (go_at_call 48;fail))
  rw [←hB1]
  go_at_call 48
  refine (HF1.out _).mono ?_
  clear hB1
  rintro e w1 ⟨rfl,hb⟩
  replace HFB:=hid (HFB.out.below hb)
  replace HBL:=hid (HBL.out.trans (below_le hb HBL.out.size))
  clear hb c0 c1 c2 c3 c4 c5 c6 c7 c8 c9 c10 c11 c12 c13 c14 c15 hlt
  have HR:Hid (R = 0):=hid (HR0.out (bad_lo f1))
  clear HR0 HRAW HV
  obtain ⟨c0,c1,c2,c3,c4,c5,c6,c7,c8,c9,c10,c11,c12,c13,c14,c15⟩:=HFB.out.cells
  have hlt:=HFB.out.lt
  go_wp2
  go_ret
  exact ⟨by rw [HR.out];rfl,HBL.out⟩
 rw [f1] at HF1
 go_wp2_with (first | (go_at_call 48;fail))
 rw [←hB1]
 go_at_call 48
 refine (HF1.out _).mono ?_
 clear hB1
 rintro e w1 ⟨rfl,hb⟩
 replace HFB:=hid (HFB.out.below hb)
 replace HBL:=hid (HBL.out.trans (below_le hb HBL.out.size))
 clear hb c0 c1 c2 c3 c4 c5 c6 c7 c8 c9 c10 c11 c12 c13 c14 c15 hlt
 cases f2:finB F.hi
 ·rw [f2] at HF2
  obtain ⟨c0,c1,c2,c3,c4,c5,c6,c7,c8,c9,c10,c11,c12,c13,c14,c15⟩:=HFB.out.cells
  have hlt:=HFB.out.lt
  go_wp2_with (first | (go_at_call 48;fail))
  go_at_call 48
  refine (HF2.out _).mono ?_
  rintro e w2 ⟨rfl,hb⟩
  replace HFB:=hid (HFB.out.below hb)
  replace HBL:=hid (HBL.out.trans (below_le hb HBL.out.size))
  clear hb c0 c1 c2 c3 c4 c5 c6 c7 c8 c9 c10 c11 c12 c13 c14 c15 hlt
  have HR:Hid (R = 0):=hid (HR0.out (bad_hi f2))
  clear HR0 HRAW HV
  obtain ⟨c0,c1,c2,c3,c4,c5,c6,c7,c8,c9,c10,c11,c12,c13,c14,c15⟩:=HFB.out.cells
  have hlt:=HFB.out.lt
  go_wp2
  go_ret
  exact ⟨by rw [HR.out];rfl,HBL.out⟩
 rw [f2] at HF2
 obtain ⟨c0,c1,c2,c3,c4,c5,c6,c7,c8,c9,c10,c11,c12,c13,c14,c15⟩:=HFB.out.cells
 have hlt:=HFB.out.lt
 go_wp2_with (first | (go_at_call 48;fail))
 go_at_call 48
 refine (HF2.out _).mono ?_
 rintro e w2 ⟨rfl,hb⟩
 replace HFB:=hid (HFB.out.below hb)
 replace HBL:=hid (HBL.out.trans (below_le hb HBL.out.size))
 clear hb c0 c1 c2 c3 c4 c5 c6 c7 c8 c9 c10 c11 c12 c13 c14 c15 hlt
 cases f3:finB F.st
 ·rw [f3] at HF3
  obtain ⟨c0,c1,c2,c3,c4,c5,c6,c7,c8,c9,c10,c11,c12,c13,c14,c15⟩:=HFB.out.cells
  have hlt:=HFB.out.lt
  go_wp2_with (first | (go_at_call 48;fail))
  go_at_call 48
  refine (HF3.out _).mono ?_
  rintro e w3 ⟨rfl,hb⟩
  replace HFB:=hid (HFB.out.below hb)
  replace HBL:=hid (HBL.out.trans (below_le hb HBL.out.size))
  clear hb c0 c1 c2 c3 c4 c5 c6 c7 c8 c9 c10 c11 c12 c13 c14 c15 hlt
  have HR:Hid (R = 0):=hid (HR0.out (bad_st f3))
  clear HR0 HRAW HV
  obtain ⟨c0,c1,c2,c3,c4,c5,c6,c7,c8,c9,c10,c11,c12,c13,c14,c15⟩:=HFB.out.cells
  have hlt:=HFB.out.lt
  go_wp2
  go_ret
  exact ⟨by rw [HR.out];rfl,HBL.out⟩
 rw [f3] at HF3
 obtain ⟨c0,c1,c2,c3,c4,c5,c6,c7,c8,c9,c10,c11,c12,c13,c14,c15⟩:=HFB.out.cells
 have hlt:=HFB.out.lt
 go_wp2_with (first | (go_at_call 48;fail))
 go_at_call 48
 refine (HF3.out _).mono ?_
 rintro e w3 ⟨rfl,hb⟩
 replace HFB:=hid (HFB.out.below hb)
 replace HBL:=hid (HBL.out.trans (below_le hb HBL.out.size))
 clear hb c0 c1 c2 c3 c4 c5 c6 c7 c8 c9 c10 c11 c12 c13 c14 c15 hlt
 have HV2:=hid (HV.out f1 f3)
 have HBD:Hid (stepsBad F.lo F.hi F.st = (decide (sv F.hi < sv F.lo) || decide (sv F.st≤0))):=hid (by unfold stepsBad;rw [f1,f2,f3];rfl)
 clear HF1 HF2 HF3
 rcases ord_cases (fin_num f1) (fin_num f2) with ⟨k1,r1⟩ | ⟨k1,r1⟩ | ⟨k1,r1⟩
 case inr.inr=>
  have HR:Hid (R = 0):=hid (HR0.out (by rw [HBD.out];simp;omega))
  clear HR0 HRAW HV
  obtain ⟨c0,c1,c2,c3,c4,c5,c6,c7,c8,c9,c10,c11,c12,c13,c14,c15⟩:=HFB.out.cells
  have hlt:=HFB.out.lt
  go_wp2
  go_ret
  exact ⟨by rw [HR.out];rfl,HBL.out⟩
 all_goals
  rcases ord_cases (fin_num f3) nan_zero with ⟨k2,r2⟩ | ⟨k2,r2⟩ | ⟨k2,r2⟩
  case inl=>
   have HR:Hid (R = 0):=hid (HR0.out (by rw [HBD.out];rw [sv_zero0] at k2;simp;omega))
   clear HR0 HRAW HV
   obtain ⟨c0,c1,c2,c3,c4,c5,c6,c7,c8,c9,c10,c11,c12,c13,c14,c15⟩:=HFB.out.cells
   have hlt:=HFB.out.lt
   go_wp2
   go_ret
   exact ⟨by rw [HR.out];rfl,HBL.out⟩
  case inr.inl=>
   have HR:Hid (R = 0):=hid (HR0.out (by rw [HBD.out];rw [sv_zero0] at k2;simp;omega))
   clear HR0 HRAW HV
   obtain ⟨c0,c1,c2,c3,c4,c5,c6,c7,c8,c9,c10,c11,c12,c13,c14,c15⟩:=HFB.out.cells
   have hlt:=HFB.out.lt
   go_wp2
   go_ret
   exact ⟨by rw [HR.out];rfl,HBL.out⟩
  have HRW:=hid (HRAW.out (by rw [HBD.out];rw [sv_zero0] at k2;simp;omega))
  clear HRAW HR0 HBD HV k1 k2
  obtain ⟨c0,c1,c2,c3,c4,c5,c6,c7,c8,c9,c10,c11,c12,c13,c14,c15⟩:=HFB.out.cells
  have hlt:=HFB.out.lt
  go_wp2
  clear c0 c1 c2 c3 c4 c5 c6 c7 c8 c9 c10 c11 c12 c13 c14 c15 hlt
  go_loopw [3] (fun i wr=>∃ j:Nat,i = .int .i64 j∧j≤10002∧Hid ((∀ i,i < j→leB (valB F.lo F.st i) F.hi = true)∧FLB wr w.heap.size F∧Below w.heap.size w wr)) (fun i _=>10002 - (intOf i).toNat)
  case atStart=>exact ⟨0,rfl,by omega,hid ⟨fun i hi=>absurd hi (by omega),HFB.out,HBL.out⟩⟩
  case round=>
   obtain ⟨j,rfl,hj,HJ⟩:=hrel
   obtain ⟨c0,c1,c2,c3,c4,c5,c6,c7,c8,c9,c10,c11,c12,c13,c14,c15⟩:=HJ.out.2.1.cells
   have hlt:=HJ.out.2.1.lt
   by_cases hlj:j≤10001
   case neg=>
    obtain rfl:j = 10002:=by omega
    have HR:Hid (R = 0):=hid (by rw [HRW.out 10002 (by omega) HJ.out.1 (.inl rfl)];rfl)
    have HBX:Hid (∀ q,Below w.heap.size w (wr.drewN q)):=hid (fun q=>below_drewN HJ.out.2.2 q)
    clear HV2 HRW HJ
    go_wp2
    go_quiet (fail)
    go_wp2
    go_ret
    exact ⟨by rw [HR.out];rfl,HBX.out _⟩
   have g1:decide ((j:Int)≤10001) = true:=by simp;omega
   have HSC:Hid (∀ W,Below wr.heap.size wr W→W.cell? ⟨w.heap.size,0,none⟩ = some (.int .i64 F.k)∧W.cell? ⟨w.heap.size,1,none⟩ = some (.string F.nm)∧W.cell? ⟨w.heap.size,2,none⟩ = some (.string F.lb)∧W.cell? ⟨w.heap.size,3,none⟩ = some (.slice F.xo F.no F.co)∧W.cell? ⟨w.heap.size,4,none⟩ = some (.int .i64 F.mn)∧W.cell? ⟨w.heap.size,5,none⟩ = some (.int .i64 F.mx)∧W.cell? ⟨w.heap.size,6,none⟩ = some (.float .f64 F.lo)∧W.cell? ⟨w.heap.size,7,none⟩ = some (.float .f64 F.hi)∧W.cell? ⟨w.heap.size,8,none⟩ = some (.float .f64 F.st)∧W.cell? ⟨w.heap.size,9,none⟩ = some (.string F.ds)∧W.cell? ⟨w.heap.size,10,none⟩ = some (.int .i64 F.dn)∧W.cell? ⟨w.heap.size,11,none⟩ = some (.bool F.db)∧W.cell? ⟨w.heap.size,12,none⟩ = some (.slice F.xl F.nl F.cl)∧W.cell? ⟨w.heap.size,13,none⟩ = some (.float .f64 F.df)∧W.cell? ⟨w.heap.size,14,none⟩ = some (.string F.sh)∧W.cell? ⟨w.heap.size,15,none⟩ = some (.string F.ck)):=hid (fun W h=>(HJ.out.2.1.below h).cells)
   have HS0:=hid (HSC.out _ (Below.refl _ _).drew)
   have HVJ:=hid (HV2.out j (by omega))
   have HRJ:=hid (HRW.out j (by omega) HJ.out.1)
   obtain ⟨c,hc⟩:∃ c,leB (valB F.lo F.st j) F.hi = c:=⟨_,rfl⟩
   have hle:=le_test c hc
   have HC:=hid hc
   generalize valB F.lo F.st j = v at HVJ hle
   clear hc
   go_wp2
   refine wp_region_held (S:=(fun w'=>w'.cell? ⟨w.heap.size,0,none⟩ = some (.int .i64 F.k)∧w'.cell? ⟨w.heap.size,1,none⟩ = some (.string F.nm)∧w'.cell? ⟨w.heap.size,2,none⟩ = some (.string F.lb)∧w'.cell? ⟨w.heap.size,3,none⟩ = some (.slice F.xo F.no F.co)∧w'.cell? ⟨w.heap.size,4,none⟩ = some (.int .i64 F.mn)∧w'.cell? ⟨w.heap.size,5,none⟩ = some (.int .i64 F.mx)∧w'.cell? ⟨w.heap.size,6,none⟩ = some (.float .f64 F.lo)∧w'.cell? ⟨w.heap.size,7,none⟩ = some (.float .f64 F.hi)∧w'.cell? ⟨w.heap.size,8,none⟩ = some (.float .f64 F.st)∧w'.cell? ⟨w.heap.size,9,none⟩ = some (.string F.ds)∧w'.cell? ⟨w.heap.size,10,none⟩ = some (.int .i64 F.dn)∧w'.cell? ⟨w.heap.size,11,none⟩ = some (.bool F.db)∧w'.cell? ⟨w.heap.size,12,none⟩ = some (.slice F.xl F.nl F.cl)∧w'.cell? ⟨w.heap.size,13,none⟩ = some (.float .f64 F.df)∧w'.cell? ⟨w.heap.size,14,none⟩ = some (.string F.sh)∧w'.cell? ⟨w.heap.size,15,none⟩ = some (.string F.ck))) (by kernel_rfl) ?_
   change wpAnyH _ _ _ _ _ _ _ _ (World.drew _)
   refine tkH (i:=0) HS0.out ?_
   try simp only [Act.put,zz1,zz2,zz3,zz4,zz6]
   refine tkH (i:=1) HS0.out ?_
   try simp only [Act.put,zz1,zz2,zz3,zz4,zz5,zz6]
   refine tkH (i:=2) HS0.out ?_
   try simp only [Act.put,zz1,zz2,zz3,zz4,zz5,zz6]
   refine tkH (i:=3) HS0.out ?_
   try simp only [Act.put,zz1,zz2,zz3,zz4,zz5,zz6]
   refine tkH (i:=4) HS0.out ?_
   try simp only [Act.put,zz1,zz2,zz3,zz4,zz5,zz6]
   refine tkH (i:=6) HS0.out ?_
   try simp only [Act.put,zz1,zz2,zz3,zz4,zz5,zz6]
   refine tkH (i:=7) HS0.out ?_
   try simp only [Act.put,zz1,zz2,zz3,zz4,zz5,zz6]
   refine wpAnyH_ready (rs:=[5]) (by kernel_rfl) (by simp) ?_
   refine AllReadyH.cons rfl (fun K hK=>?_) AllReadyH.nil
   go_simp
   go_at_call 43
   refine (HVJ.out _).mono ?_
   rintro e w5 ⟨rfl,hb5⟩
   have HB5:Hid (Below wr.heap.size wr w5):=hid ((Below.refl _ _).drew.trans hb5)
   have HS5:=hid (HSC.out _ HB5.out)
   clear hb5
   refine hK.out _ _ HS5.out (fun _=>?_)
   clear hK K
   try simp only [Act.put,zz1,zz2,zz3,zz4,zz5,zz6]
   refine tkH (i:=8) HS5.out ?_
   try simp only [Act.put,zz1,zz2,zz3,zz4,zz5,zz6]
   refine tkH (i:=9) HS5.out ?_
   try simp only [Act.put,zz1,zz2,zz3,zz4,zz5,zz6]
   refine wpAnyH_done (by kernel_rfl) ?_ _
   have HF5:=hid (HJ.out.2.1.below HB5.out)
   have HW5:=hid (HJ.out.2.2.trans (below_le HB5.out HJ.out.2.2.size))
   cases c
   ·have HR:Hid (R = j):=hid (by rw [HRJ.out (.inr HC.out),if_neg (by omega)])
    clear HRJ HRW HV2 HVJ HSC HS0 HS5 HFB HBL c0 c1 c2 c3 c4 c5 c6 c7 c8 c9 c10 c11 c12 c13 c14 c15
    go_wp2
    go_ret
    exact ⟨by rw [HR.out];rfl,HW5.out⟩
   ·have HN:Hid (∀ i,i < j + 1→leB (valB F.lo F.st i) F.hi = true):=hid (fun i hi=>by
     rcases Nat.lt_or_ge i j with z | z
     ·exact HJ.out.1 i z
     ·obtain rfl:i = j:=by omega
      exact HC.out)
    clear HRJ HRW HV2 HVJ HSC HS0 HS5 HFB HBL c0 c1 c2 c3 c4 c5 c6 c7 c8 c9 c10 c11 c12 c13 c14 c15
    go_wp2
    go_roundw
    case rel=>exact ⟨j + 1,by go_num,by omega,hid ⟨HN.out,HF5.out,HW5.out⟩⟩
    case measure=>simp [intOf];omega
end Go.Proofs.YtpcbamcelpcigaaGreat
