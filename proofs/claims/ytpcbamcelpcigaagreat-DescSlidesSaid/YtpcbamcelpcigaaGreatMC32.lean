/- Own texts, merged. -/
import Derived.WalkKit
import Derived.Test.YtpcbamcelpcigaaGreatMC03
import Derived.Test.YtpcbamcelpcigaaGreatMC31
import Derived.Test.YtpcbamcelpcigaaGreatMC00
set_option maxRecDepth 100000
set_option maxHeartbeats 32000000
open Go.Lib (hid)
namespace Go.Proofs.YtpcbamcelpcigaaGreat
open Go.RowKit Go.Shelf Ieee
attribute [local go_sem] run_store_float
theorem rtypeOf (L:List Bnd) (hLL:L.length≤1000000) (vb:Value) (t:Tree) (A:Nat→Prop) (v:Value) (w:World) (hz:szT t≤1000000) (hv:NodeV A w v t) (hb:BndV w vb L) :
  Calls Tryz.prog 58 #[v,vb] w fun e w'=>e = .returned (.tuple #[.int .i64 ((tyP L t).1:Nat),.int .i64 ((tyP L t).2:Nat)])∧Below w.heap.size w w':=by
 have HDP:=hid (fun W (h:NodeV A W v t)=>rdepth _ t (Nat.le_refl _) A v W hz h)
 have HTY:=hid (fun W (h:NodeV A W v t) (k:BndV W vb L)=>rtyped L hLL vb _ t (Nat.le_refl _) A v W hz h k)
 have HDD:Hid (depT t≤1000000):=hid (by have:=dep_sz t;omega)
 have HV:=hid hv
 have HBV:=hid hb
 obtain ⟨o,n,s,x,l,c,rfl⟩:=hv.agg
 obtain ⟨bx,bn,bc,rfl⟩:=hb.agg
 obtain ⟨R,hR⟩:∃ R,R = tyP L t:=⟨_,rfl⟩
 rw [←hR]
 unfold tyP at hR
 obtain ⟨T,hT⟩:∃ T,T = tyT L t:=⟨_,rfl⟩
 rw [←hT] at hR HTY
 obtain ⟨D,hD⟩:∃ D,D = depT t:=⟨_,rfl⟩
 rw [←hD] at hR HDP HDD
 have HR:=hid hR
 have hdd:=HDD.out
 have HB0:=hid (bel1 w (.cells #[.string o,.float .f64 n,.string s,.slice x l c] 87))
 have HNB:Hid (NB (w.alloc (.cells #[.string o,.float .f64 n,.string s,.slice x l c] 87)) w.heap.size (.agg #[.string o,.float .f64 n,.string s,.slice x l c])):=hid ⟨_,_,_,_,rfl,heap_alloc_new _ _⟩
 clear hv hb hz hR hT hD
 go_enter Tryz.func58,Tryz.ntmps58
 go_wp2_with (first | (go_at_call 84;fail))
 generalize w.alloc (.cells #[.string o,.float .f64 n,.string s,.slice x l c] 87) = W0 at HB0 HNB ⊢
 go_at_call 84
 refine (HDP.out _ (HV.out.below HB0.out)).mono ?_
 rintro e w2 ⟨rfl,hb2⟩
 have HB2:=hid (HB0.out.trans (below_le hb2 HB0.out.size))
 obtain ⟨p0,p1,p2,p3,_⟩:=(HNB.out.below hb2).cells
 have hlt:=(HNB.out.below hb2).lt
 clear hb2 HB0 HNB HDP
 by_cases q:16 < D
 ·have HR2:Hid (R = (0,190)):=hid (by rw [HR.out,if_pos q])
  go_wp2
  go_ret2
  exact ⟨by rw [HR2.out];rfl,HB2.out⟩
 ·have HR2:Hid (R = T):=hid (by rw [HR.out,if_neg q])
  obtain ⟨T1,T2⟩:=T
  go_wp2_with (first | (go_at_call 85;fail))
  go_at_call 85
  refine (HTY.out _ (HV.out.below HB2.out) (HBV.out.below HB2.out)).mono ?_
  rintro e w3 ⟨rfl,hb3⟩
  have HB3:=hid (HB2.out.trans (below_le hb3 HB2.out.size))
  clear hb3
  go_wp2
  go_ret2
  exact ⟨by rw [HR2.out];rfl,HB3.out⟩
end Go.Proofs.YtpcbamcelpcigaaGreat
namespace Go.Proofs.YtpcbamcelpcigaaGreat
open Go.RowKit Go.Shelf
theorem rIs (r:Int) (w:World):Calls Tryz.prog 101 #[.int .i32 r] w fun e w'=>e = .returned (.bool (isR r))∧w = w':=by
 by_cases h1:0≤r
 ·by_cases h2:r≤1114111
  ·by_cases h3:r < 55296
   ·have HV:=hid (show isR r = true by unfold isR;rw [decide_eq_true_iff];omega)
    go_enter Tryz.func101,Tryz.ntmps101
    go_wp2
    go_ret
    exact ⟨ret_bool HV.out.symm,rfl⟩
   ·have HV:=hid (show isR r = decide (57343 < r) by unfold isR;rw [decide_eq_decide];omega)
    go_enter Tryz.func101,Tryz.ntmps101
    go_wp2
    go_ret
    exact ⟨ret_bool HV.out.symm,rfl⟩
  ·have HV:=hid (show isR r = false by unfold isR;rw [decide_eq_false_iff_not];omega)
   go_enter Tryz.func101,Tryz.ntmps101
   go_wp2
   go_ret
   exact ⟨ret_bool HV.out.symm,rfl⟩
 ·have HV:=hid (show isR r = false by unfold isR;rw [decide_eq_false_iff_not];omega)
  go_enter Tryz.func101,Tryz.ntmps101
  go_wp2
  go_ret
  exact ⟨ret_bool HV.out.symm,rfl⟩
theorem rIs2 (r:Int) (w:World):Calls Tryz.prog 103 #[.int .i32 r] w fun e w'=>e = .returned (.bool (isR r))∧w = w':=by
 by_cases h1:0≤r
 ·by_cases h2:r≤1114111
  ·by_cases h3:r < 55296
   ·have HV:=hid (show isR r = true by unfold isR;rw [decide_eq_true_iff];omega)
    have h4:¬ 55296≤r:=by omega
    go_enter Tryz.func103,Tryz.ntmps103
    go_wp2
    go_ret
    exact ⟨ret_bool HV.out.symm,rfl⟩
   ·have h4:55296≤r:=by omega
    by_cases h5:r≤57343
    ·have HV:=hid (show isR r = false by unfold isR;rw [decide_eq_false_iff_not];omega)
     go_enter Tryz.func103,Tryz.ntmps103
     go_wp2
     go_ret
     exact ⟨ret_bool HV.out.symm,rfl⟩
    ·have HV:=hid (show isR r = true by unfold isR;rw [decide_eq_true_iff];omega)
     go_enter Tryz.func103,Tryz.ntmps103
     go_wp2
     go_ret
     exact ⟨ret_bool HV.out.symm,rfl⟩
  ·have HV:=hid (show isR r = false by unfold isR;rw [decide_eq_false_iff_not];omega)
   go_enter Tryz.func103,Tryz.ntmps103
   go_wp2
   go_ret
   exact ⟨ret_bool HV.out.symm,rfl⟩
 ·have HV:=hid (show isR r = false by unfold isR;rw [decide_eq_false_iff_not];omega)
  go_enter Tryz.func103,Tryz.ntmps103
  go_wp2
  go_ret
  exact ⟨ret_bool HV.out.symm,rfl⟩
theorem rCtl (r:Int) (w:World):Calls Tryz.prog 104 #[.int .i32 r] w fun e w'=>e = .returned (.bool (ctl r))∧w = w':=by
 by_cases h1:0≤r
 ·by_cases h2:r≤31
  ·have HV:=hid (show ctl r = true by unfold ctl;rw [decide_eq_true_iff];omega)
   go_enter Tryz.func104,Tryz.ntmps104
   go_wp2
   go_ret
   exact ⟨ret_bool HV.out.symm,rfl⟩
  ·by_cases h3:127≤r
   ·have HV:=hid (show ctl r = decide (r≤159) by unfold ctl;rw [decide_eq_decide];omega)
    go_enter Tryz.func104,Tryz.ntmps104
    go_wp2
    go_ret
    exact ⟨ret_bool HV.out.symm,rfl⟩
   ·have HV:=hid (show ctl r = false by unfold ctl;rw [decide_eq_false_iff_not];omega)
    go_enter Tryz.func104,Tryz.ntmps104
    go_wp2
    go_ret
    exact ⟨ret_bool HV.out.symm,rfl⟩
 ·have HV:=hid (show ctl r = false by unfold ctl;rw [decide_eq_false_iff_not];omega)
  have h3:¬ 127≤r:=by omega
  go_enter Tryz.func104,Tryz.ntmps104
  go_wp2
  go_ret
  exact ⟨ret_bool HV.out.symm,rfl⟩
theorem rCtl3 (r:Int) (w:World):Calls Tryz.prog 107 #[.int .i32 r] w fun e w'=>e = .returned (.bool (ctl r))∧w = w':=by
 by_cases h1:0≤r
 ·by_cases h2:r≤31
  ·have HV:=hid (show ctl r = true by unfold ctl;rw [decide_eq_true_iff];omega)
   go_enter Tryz.func107,Tryz.ntmps107
   go_wp2
   go_ret
   exact ⟨ret_bool HV.out.symm,rfl⟩
  ·by_cases h3:127≤r
   ·have HV:=hid (show ctl r = decide (r≤159) by unfold ctl;rw [decide_eq_decide];omega)
    go_enter Tryz.func107,Tryz.ntmps107
    go_wp2
    go_ret
    exact ⟨ret_bool HV.out.symm,rfl⟩
   ·have HV:=hid (show ctl r = false by unfold ctl;rw [decide_eq_false_iff_not];omega)
    go_enter Tryz.func107,Tryz.ntmps107
    go_wp2
    go_ret
    exact ⟨ret_bool HV.out.symm,rfl⟩
 ·have HV:=hid (show ctl r = false by unfold ctl;rw [decide_eq_false_iff_not];omega)
  have h3:¬ 127≤r:=by omega
  go_enter Tryz.func107,Tryz.ntmps107
  go_wp2
  go_ret
  exact ⟨ret_bool HV.out.symm,rfl⟩
theorem rlow (n M:Int) (h0:0≤n) (hM:M = n % 64) (w:World):Calls Tryz.prog 102 #[.int .i32 n] w fun e w'=>e = .returned (.int .u8 (128 + M))∧w = w':=by
 have r1:n.tmod 64 = M:=by rw [Int.tmod_eq_emod_of_nonneg h0,hM]
 have b1:0≤M:=by omega
 have b2:M < 64:=by omega
 clear hM
 go_enter Tryz.func102,Tryz.ntmps102
 go_wp2
 go_ret
 exact ⟨rfl,rfl⟩
theorem rbytes (r:Int) (w:World):Calls Tryz.prog 79 #[.int .i32 r] w (BytesEnd (rb r) w):=by
 have HI:=hid (rIs r)
 have HR:=hid (show rb r = rb0 (if isR r = true then r else 65533) from rfl)
 obtain ⟨I,hI⟩:∃ I,I = isR r:=⟨_,rfl⟩
 have HQ:=hid (show I = true→0≤r∧r≤1114111 from fun h=>by rw [hI] at h;unfold isR at h;rw [decide_eq_true_iff] at h;omega)
 obtain ⟨L,hL⟩:∃ L,L = rb r:=⟨_,rfl⟩
 rw [←hI] at HI HR
 rw [←hL] at HR ⊢
 clear hI hL
 cases I
 ·have HV:Hid (L = [239,191,189]):=hid (HR.out.trans (by rw [if_neg (by decide)];decide))
  have H1:=hid (rlow 65533 61 (by decide) (by decide))
  have H2:=hid (rlow 1023 63 (by decide) (by decide))
  go_enter Tryz.func79,Tryz.ntmps79
  go_wp2_with (first | (go_at_call 101;(with_reducible refine (HI.out _).mono ?_);rintro e w' ⟨rfl,rfl⟩) | (go_at_call 102;(first | (with_reducible refine (H1.out _).mono ?_) | (with_reducible refine (H2.out _).mono ?_));rintro e w' ⟨rfl,rfl⟩))
  go_ret
  rw [HV.out]
  exact ⟨w.heap.size,rfl,heap_alloc_new _ _,Nat.le_refl _,(Below.refl _ _).alloc (Nat.le_refl _) _⟩
 ·obtain ⟨h0,hm⟩:=HQ.out rfl
  have hr:=HR.out
  rw [if_pos rfl] at hr
  clear HR HQ
  by_cases h1:r < 128
  ·have HV:Hid (L = [by8 r]):=hid (hr.trans (by unfold rb0;rw [if_pos h1]))
   have HE:Hid ((Lib.byteCells [by8 r]).toArray = #[.int .u8 (r)]):=hid (by
    simp only [Lib.byteCells,List.map]
    rw [←by8_v (r) (by omega) (by omega)])
   clear hr
   go_enter Tryz.func79,Tryz.ntmps79
   go_wp2_with (first | (go_at_call 101;(with_reducible refine (HI.out _).mono ?_);rintro e w' ⟨rfl,rfl⟩))
   go_ret
   rw [HV.out]
   exact ⟨w.heap.size,rfl,(by rw [HE.out];exact heap_alloc_new _ _),Nat.le_refl _,(Below.refl _ _).alloc (Nat.le_refl _) _⟩
  ·skip
   by_cases h2:r < 2048
   ·skip
    have tq1:r.tdiv 64 = r / 64:=Int.tdiv_eq_ediv_of_nonneg h0
    obtain ⟨m0,hm0⟩:∃ m,m = r % 64:=⟨_,rfl⟩
    have L0:=hid (rlow r m0 h0 hm0)
    have um0:0≤m0∧m0 < 64:=by omega
    obtain ⟨q1,hq1⟩:∃ m,m = r / 64:=⟨_,rfl⟩
    have uq1:0≤q1∧q1 < 32:=by omega
    have L1:=L0
    have L2:=L0
    rw [←hq1] at tq1
    have HV:Hid (L = [by8 (192 + q1),by8 (128 + m0)]):=hid (by rw [hr];unfold rb0;rw [if_neg h1,if_pos h2];simp only [hm0,hq1])
    have HE:Hid ((Lib.byteCells [by8 (192 + q1),by8 (128 + m0)]).toArray = #[.int .u8 (192 + q1),.int .u8 (128 + m0)]):=hid (by
     simp only [Lib.byteCells,List.map]
     rw [←by8_v (192 + q1) (by omega) (by omega)]
     rw [←by8_v (128 + m0) (by omega) (by omega)])
    obtain ⟨am0,bm0⟩:=um0
    obtain ⟨aq1,bq1⟩:=uq1
    clear hr hm0 hq1
    go_enter Tryz.func79,Tryz.ntmps79
    go_wp2_with (first | (go_at_call 101;(with_reducible refine (HI.out _).mono ?_);rintro e w' ⟨rfl,rfl⟩) | (go_at_call 102;(first | (with_reducible refine (L0.out _).mono ?_) | (with_reducible refine (L1.out _).mono ?_) | (with_reducible refine (L2.out _).mono ?_));rintro e w' ⟨rfl,rfl⟩))
    go_ret
    rw [HV.out]
    exact ⟨w.heap.size,rfl,(by rw [HE.out];exact heap_alloc_new _ _),Nat.le_refl _,(Below.refl _ _).alloc (Nat.le_refl _) _⟩
   ·skip
    by_cases h3:r < 65536
    ·skip
     have tq1:r.tdiv 64 = r / 64:=Int.tdiv_eq_ediv_of_nonneg h0
     have tq2:r.tdiv 4096 = r / 4096:=Int.tdiv_eq_ediv_of_nonneg h0
     obtain ⟨m0,hm0⟩:∃ m,m = r % 64:=⟨_,rfl⟩
     obtain ⟨m1,hm1⟩:∃ m,m = r / 64 % 64:=⟨_,rfl⟩
     have L0:=hid (rlow r m0 h0 hm0)
     have um0:0≤m0∧m0 < 64:=by omega
     have um1:0≤m1∧m1 < 64:=by omega
     obtain ⟨q1,hq1⟩:∃ m,m = r / 64:=⟨_,rfl⟩
     have uq1:0≤q1∧q1 < 1024:=by omega
     obtain ⟨q2,hq2⟩:∃ m,m = r / 4096:=⟨_,rfl⟩
     have uq2:0≤q2∧q2 < 16:=by omega
     have L1:=hid (rlow q1 m1 (by omega) (by rw [hq1];exact hm1))
     have L2:=L0
     rw [←hq1] at tq1
     rw [←hq2] at tq2
     have HV:Hid (L = [by8 (224 + q2),by8 (128 + m1),by8 (128 + m0)]):=hid (by rw [hr];unfold rb0;rw [if_neg h1,if_neg h2,if_pos h3];simp only [hm0,hm1,hq2])
     have HE:Hid ((Lib.byteCells [by8 (224 + q2),by8 (128 + m1),by8 (128 + m0)]).toArray = #[.int .u8 (224 + q2),.int .u8 (128 + m1),.int .u8 (128 + m0)]):=hid (by
      simp only [Lib.byteCells,List.map]
      rw [←by8_v (224 + q2) (by omega) (by omega)]
      rw [←by8_v (128 + m1) (by omega) (by omega)]
      rw [←by8_v (128 + m0) (by omega) (by omega)])
     obtain ⟨am0,bm0⟩:=um0
     obtain ⟨am1,bm1⟩:=um1
     obtain ⟨aq1,bq1⟩:=uq1
     obtain ⟨aq2,bq2⟩:=uq2
     clear hr hm0 hm1 hq1 hq2
     go_enter Tryz.func79,Tryz.ntmps79
     go_wp2_with (first | (go_at_call 101;(with_reducible refine (HI.out _).mono ?_);rintro e w' ⟨rfl,rfl⟩) | (go_at_call 102;(first | (with_reducible refine (L0.out _).mono ?_) | (with_reducible refine (L1.out _).mono ?_) | (with_reducible refine (L2.out _).mono ?_));rintro e w' ⟨rfl,rfl⟩))
     go_ret
     rw [HV.out]
     exact ⟨w.heap.size,rfl,(by rw [HE.out];exact heap_alloc_new _ _),Nat.le_refl _,(Below.refl _ _).alloc (Nat.le_refl _) _⟩
    ·skip
     have tq1:r.tdiv 64 = r / 64:=Int.tdiv_eq_ediv_of_nonneg h0
     have tq2:r.tdiv 4096 = r / 4096:=Int.tdiv_eq_ediv_of_nonneg h0
     have tq3:r.tdiv 262144 = r / 262144:=Int.tdiv_eq_ediv_of_nonneg h0
     obtain ⟨m0,hm0⟩:∃ m,m = r % 64:=⟨_,rfl⟩
     obtain ⟨m1,hm1⟩:∃ m,m = r / 64 % 64:=⟨_,rfl⟩
     obtain ⟨m2,hm2⟩:∃ m,m = r / 4096 % 64:=⟨_,rfl⟩
     have L0:=hid (rlow r m0 h0 hm0)
     have um0:0≤m0∧m0 < 64:=by omega
     have um1:0≤m1∧m1 < 64:=by omega
     have um2:0≤m2∧m2 < 64:=by omega
     obtain ⟨q1,hq1⟩:∃ m,m = r / 64:=⟨_,rfl⟩
     have uq1:0≤q1∧q1 < 17408:=by omega
     obtain ⟨q2,hq2⟩:∃ m,m = r / 4096:=⟨_,rfl⟩
     have uq2:0≤q2∧q2 < 272:=by omega
     obtain ⟨q3,hq3⟩:∃ m,m = r / 262144:=⟨_,rfl⟩
     have uq3:0≤q3∧q3 < 5:=by omega
     have L1:=hid (rlow q1 m1 (by omega) (by rw [hq1];exact hm1))
     have L2:=hid (rlow q2 m2 (by omega) (by rw [hq2];exact hm2))
     rw [←hq1] at tq1
     rw [←hq2] at tq2
     rw [←hq3] at tq3
     have HV:Hid (L = [by8 (240 + q3),by8 (128 + m2),by8 (128 + m1),by8 (128 + m0)]):=hid (by rw [hr];unfold rb0;rw [if_neg h1,if_neg h2,if_neg h3];simp only [hm0,hm1,hm2,hq3])
     have HE:Hid ((Lib.byteCells [by8 (240 + q3),by8 (128 + m2),by8 (128 + m1),by8 (128 + m0)]).toArray = #[.int .u8 (240 + q3),.int .u8 (128 + m2),.int .u8 (128 + m1),.int .u8 (128 + m0)]):=hid (by
      simp only [Lib.byteCells,List.map]
      rw [←by8_v (240 + q3) (by omega) (by omega)]
      rw [←by8_v (128 + m2) (by omega) (by omega)]
      rw [←by8_v (128 + m1) (by omega) (by omega)]
      rw [←by8_v (128 + m0) (by omega) (by omega)])
     obtain ⟨am0,bm0⟩:=um0
     obtain ⟨am1,bm1⟩:=um1
     obtain ⟨am2,bm2⟩:=um2
     obtain ⟨aq1,bq1⟩:=uq1
     obtain ⟨aq2,bq2⟩:=uq2
     obtain ⟨aq3,bq3⟩:=uq3
     clear hr hm0 hm1 hm2 hq1 hq2 hq3
     go_enter Tryz.func79,Tryz.ntmps79
     go_wp2_with (first | (go_at_call 101;(with_reducible refine (HI.out _).mono ?_);rintro e w' ⟨rfl,rfl⟩) | (go_at_call 102;(first | (with_reducible refine (L0.out _).mono ?_) | (with_reducible refine (L1.out _).mono ?_) | (with_reducible refine (L2.out _).mono ?_));rintro e w' ⟨rfl,rfl⟩))
     go_ret
     rw [HV.out]
     exact ⟨w.heap.size,rfl,(by rw [HE.out];exact heap_alloc_new _ _),Nat.le_refl _,(Below.refl _ _).alloc (Nat.le_refl _) _⟩
def lenR (c:Nat):Nat:=if c < 128 then 1 else if c < 194 then 0 else if c < 224 then 2 else if c < 240 then 3 else if c < 245 then 4 else 0
theorem rlength (c:Nat) (w:World):Calls Tryz.prog 137 #[.int .u8 c] w fun e w'=>e = .returned (.int .i64 (lenR c:Nat))∧w = w':=by
 by_cases h1:c < 128
 ·have HV:=hid (show lenR c = 1 by unfold lenR;rw [if_pos h1])
  have j1:(c:Int) < 128:=by omega
  go_enter Tryz.func137,Tryz.ntmps137
  go_wp2
  go_ret
  exact ⟨by rw [HV.out];rfl,rfl⟩
 ·have j1:¬ (c:Int) < 128:=by omega
  by_cases h2:c < 194
  ·have HV:=hid (show lenR c = 0 by unfold lenR;rw [if_neg h1,if_pos h2])
   have j2:¬ (194:Int)≤c:=by omega
   have j3:¬ (224:Int)≤c:=by omega
   have j4:¬ (240:Int)≤c:=by omega
   go_enter Tryz.func137,Tryz.ntmps137
   go_wp2
   go_ret
   exact ⟨by rw [HV.out];rfl,rfl⟩
  ·have j2:(194:Int)≤c:=by omega
   by_cases h3:c < 224
   ·have HV:=hid (show lenR c = 2 by unfold lenR;rw [if_neg h1,if_neg h2,if_pos h3])
    have j3:(c:Int) < 224:=by omega
    go_enter Tryz.func137,Tryz.ntmps137
    go_wp2
    go_ret
    exact ⟨by rw [HV.out];rfl,rfl⟩
   ·have j3:¬ (c:Int) < 224:=by omega
    have j3b:(224:Int)≤c:=by omega
    by_cases h4:c < 240
    ·have HV:=hid (show lenR c = 3 by unfold lenR;rw [if_neg h1,if_neg h2,if_neg h3,if_pos h4])
     have j4:(c:Int) < 240:=by omega
     go_enter Tryz.func137,Tryz.ntmps137
     go_wp2
     go_ret
     exact ⟨by rw [HV.out];rfl,rfl⟩
    ·have j4:¬ (c:Int) < 240:=by omega
     have j4b:(240:Int)≤c:=by omega
     by_cases h5:c < 245
     ·have HV:=hid (show lenR c = 4 by unfold lenR;rw [if_neg h1,if_neg h2,if_neg h3,if_neg h4,if_pos h5])
      have j5:(c:Int) < 245:=by omega
      go_enter Tryz.func137,Tryz.ntmps137
      go_wp2
      go_ret
      exact ⟨by rw [HV.out];rfl,rfl⟩
     ·have HV:=hid (show lenR c = 0 by unfold lenR;rw [if_neg h1,if_neg h2,if_neg h3,if_neg h4,if_neg h5])
      have j5:¬ (c:Int) < 245:=by omega
      go_enter Tryz.func137,Tryz.ntmps137
      go_wp2
      go_ret
      exact ⟨by rw [HV.out];rfl,rfl⟩
def tailB (c:UInt8):Bool:=decide (128≤c.toNat∧c.toNat≤191)
def tailsR (l:Bs):Bool:=(l.drop 1).all tailB
theorem tails_no {l:Bs} {j:Nat} (h1:1≤j) (hj:j < l.length) (h:tailB (l.getD j 0) = false):tailsR l = false:=by
 unfold tailsR
 rw [List.all_eq_false]
 refine ⟨l.getD j 0,?_,by rw [h];simp⟩
 rw [List.getD_eq_getElem?_getD,List.getElem?_eq_getElem hj]
 simp only [Option.getD_some]
 rw [List.mem_iff_getElem]
 exact ⟨j - 1,by simp;omega,by rw [List.getElem_drop];congr 1;omega⟩
theorem tails_yes {l:Bs} (h:∀ j,1≤j→j < l.length→tailB (l.getD j 0) = true):tailsR l = true:=by
 unfold tailsR
 rw [List.all_eq_true]
 intro c hc
 obtain ⟨i,hi,e⟩:=List.mem_iff_getElem.1 hc
 have h1:=h (1 + i) (by omega) (by simp at hi;omega)
 rw [List.getD_eq_getElem?_getD,List.getElem?_eq_getElem (by simp at hi;omega)] at h1
 rw [←e,List.getElem_drop]
 exact h1
theorem rtails (b off cap:Nat) (l:Bs) (hl:l.length≤cap) (hl2:l.length≤1000000) (w:World) (h:BytesAt w b off l):Calls Tryz.prog 172 #[.slice (some ⟨b,off,none⟩) l.length cap] w fun e w'=>e = .returned (.bool (tailsR l))∧w = w':=by
 have HB:=hid h
 obtain ⟨n,hn⟩:∃ n,n = l.length:=⟨_,rfl⟩
 have HN:=hid hn
 rw [←hn] at hl hl2 ⊢
 clear h hn
 go_enter Tryz.func172,Tryz.ntmps172
 go_wp2
 go_loopw [3] (fun v wr=>∃ j:Nat,v = .int .i64 (j:Int)∧1≤j∧(j≤1∨j≤n)∧Hid (∀ q,1≤q→q < j→tailB (l.getD q 0) = true)∧w = wr) (fun v _=>n - (intOf v).toNat)
 case atStart=>exact ⟨1,rfl,by omega,by omega,hid (fun q h1 h2=>by omega),rfl⟩
 case round=>
  obtain ⟨j,rfl,hj1,hjn,HT,rfl⟩:=hrel
  by_cases hlt:j < n
  ·have c1:=HB.out j (by have:=HN.out;omega)
   have i1:(0:Int)≤(j:Int):=by omega
   have i2:(j:Int) < (n:Int):=by omega
   have i3:j < cap:=by omega
   obtain ⟨x,hx⟩:∃ x,x = (l.getD j 0).toNat:=⟨_,rfl⟩
   have HX:Hid (tailB (l.getD j 0) = decide (128≤x∧x≤191)):=hid (by rw [hx];rfl)
   rw [←hx] at c1
   clear hx
   by_cases h1:x < 128
   ·have t1:(x:Int) < 128:=by omega
    have HR:=hid (tails_no (l:=l) hj1 (by have:=HN.out;omega) (by rw [HX.out,decide_eq_false_iff_not];omega))
    go_wp2
    go_ret
    exact ⟨by rw [HR.out];rfl,rfl⟩
   ·have t1:¬ (x:Int) < 128:=by omega
    by_cases h2:x≤191
    ·have t2:¬ (191:Int) < (x:Int):=by omega
     go_wp2
     go_roundw
     case rel=>exact ⟨j + 1,by go_num,by omega,by omega,hid (fun q q1 q2=>by
      by_cases e:q = j
      ·rw [e,HX.out,decide_eq_true_iff];omega
      ·exact HT.out q q1 (by omega)),by trivial⟩
     case measure=>simp [intOf];omega
    ·have t2:(191:Int) < (x:Int):=by omega
     have HR:=hid (tails_no (l:=l) hj1 (by have:=HN.out;omega) (by rw [HX.out,decide_eq_false_iff_not];omega))
     go_wp2
     go_ret
     exact ⟨by rw [HR.out];rfl,rfl⟩
  ·have i2:¬ (j:Int) < (n:Int):=by omega
   have HR:=hid (tails_yes (fun q q1 q2=>HT.out q q1 (by have:=HN.out;omega)))
   go_wp2
   go_ret
   exact ⟨by rw [HR.out];rfl,rfl⟩
def hdR (n:Nat):Int:=if n = 2 then 192 else if n = 3 then 224 else if n = 4 then 240 else 0
def numP (l:Bs) (n:Nat):Nat→Int
 | 0=>((l.getD 0 0).toNat:Int) - hdR n
 | i + 1=>numP l n i * 64 + ((l.getD (i + 1) 0).toNat % 64:Nat)
def numR (l:Bs):Int:=if l.length < 2 then ((l.getD 0 0).toNat:Int) else numP l l.length (l.length - 1)
theorem lenR_bd {c n:Nat} (h:lenR c = n) (h2:2≤n):n≤4∧0≤(c:Int) - hdR n∧(c:Int) - hdR n < 32∧hdR n≤c∧0≤hdR n:=by
 unfold lenR at h
 unfold hdR
 split at h
 ·omega
 ·split at h
  ·omega
  ·split at h
   ·subst h;simp;omega
   ·split at h
    ·subst h;simp;omega
    ·split at h
     ·subst h;simp;omega
     ·omega
theorem numP_bd {l:Bs} {n:Nat} (h:lenR (l.getD 0 0).toNat = n) (h2:2≤n):0≤numP l n 0∧numP l n 0 < 32∧0≤numP l n 1∧numP l n 1 < 2048∧0≤numP l n 2∧numP l n 2 < 131072∧0≤numP l n 3∧numP l n 3 < 8388608:=by
 obtain ⟨_,h1,h3,_⟩:=lenR_bd h h2
 have e0:numP l n 0 = ((l.getD 0 0).toNat:Int) - hdR n:=rfl
 have e1:numP l n 1 = numP l n 0 * 64 + ((l.getD 1 0).toNat % 64:Nat):=rfl
 have e2:numP l n 2 = numP l n 1 * 64 + ((l.getD 2 0).toNat % 64:Nat):=rfl
 have e3:numP l n 3 = numP l n 2 * 64 + ((l.getD 3 0).toNat % 64:Nat):=rfl
 omega
theorem numP_bd' {l:Bs} {n:Nat} (h:lenR (l.getD 0 0).toNat = n) (h2:2≤n) (i:Nat) (hi:i≤3):0≤numP l n i∧numP l n i < 8388608:=by
 have:=numP_bd h h2
 match i,hi with
 | 0,_=>omega
 | 1,_=>omega
 | 2,_=>omega
 | 3,_=>omega
theorem rnumber (b off cap:Nat) (l:Bs) (hl:l.length≤cap) (hl1:1≤l.length) (hlen:lenR (l.getD 0 0).toNat = l.length) (w:World) (h:BytesAt w b off l) (hbl:b < w.heap.size):Calls Tryz.prog 139 #[.slice (some ⟨b,off,none⟩) l.length cap] w fun e w'=>e = .returned (.int .i32 (numR l))∧Below w.heap.size w w':=by
 have HB:=hid h
 have c0:=h 0 (by omega)
 rw [Nat.add_zero] at c0
 have hx8:(l.getD 0 0).toNat < 256:=UInt8.toNat_lt _
 by_cases h2:l.length < 2
 ·have h1:l.length = 1:=by omega
  have HV:Hid (numR l = ((l.getD 0 0).toNat:Int)):=hid (by unfold numR;rw [if_pos h2])
  rw [h1] at hl ⊢
  obtain ⟨x,hx⟩:∃ x,x = (l.getD 0 0).toNat:=⟨_,rfl⟩
  rw [←hx] at c0 HV hx8
  clear hx h hlen h1 h2 HB hl1
  go_enter Tryz.func139,Tryz.ntmps139
  go_wp2
  go_ret
  exact ⟨by rw [HV.out];rfl,(Below.refl _ _).alloc (Nat.le_refl _) _⟩
 ·have h2':2≤l.length:=by omega
  obtain ⟨q1,q2,q3,q4,q5⟩:=lenR_bd hlen h2'
  have HBD:=hid (fun i hi=>numP_bd' hlen h2' i hi)
  have HV:Hid (numR l = numP l l.length (l.length - 1)):=hid (by unfold numR;rw [if_neg h2])
  have hcell:∀ W:World,Below w.heap.size (w.alloc (.cells #[.int .i64 0,.int .i64 0,.int .i64 192,.int .i64 224,.int .i64 240] 3)) W→True:=fun _ _=>trivial
  clear hcell
  have hh:(w.alloc (.cells #[.int .i64 0,.int .i64 0,.int .i64 192,.int .i64 224,.int .i64 240] 3)).cell? ⟨w.heap.size,l.length,none⟩ = some (.int .i64 (hdR l.length)):=by
   have h3:l.length = 2∨l.length = 3∨l.length = 4:=by omega
   rcases h3 with e | e | e <;> rw [e] <;> simp [go_sem,hdR]
  obtain ⟨n,hn⟩:∃ n,n = l.length:=⟨_,rfl⟩
  have HN:=hid hn
  rw [←hn] at hl q1 q2 q3 q4 q5 HBD HV hh h2' ⊢
  obtain ⟨x,hx⟩:∃ x,x = (l.getD 0 0).toNat:=⟨_,rfl⟩
  have HX:=hid hx
  rw [←hx] at c0 hx8 q2 q3 q4
  obtain ⟨H,hH⟩:∃ H,H = hdR n:=⟨_,rfl⟩
  have HH:=hid hH
  rw [←hH] at q2 q3 q4 q5 hh
  have i1:(2:Int)≤(n:Int):=by omega
  have i2:(n:Int)≤4:=by omega
  have i3:(0:Int)≤(n:Int):=by omega
  have i4:¬ (n:Int) < 2:=by omega
  have i5:¬ 4 < (n:Int):=by omega
  have hn1:n < 5:=by omega
  have hc1:0 < cap:=by omega
  clear hx hH h hlen h2 hn hl1 h2'
  go_enter Tryz.func139,Tryz.ntmps139
  go_wp2
  go_quiet (fail)
  go_wp2
  have HP0:Hid ((x:Int) - H = numP l n 0):=hid (by rw [HX.out,HH.out];rfl)
  go_loopw [4,5] (fun v4 v5 wr=>∃ i:Nat,v4 = .int .i32 (numP l n i)∧v5 = .int .i64 ((i + 1:Nat):Int)∧i + 1≤n∧Hid (∃ m,wr = (w.alloc (.cells #[.int .i64 0,.int .i64 0,.int .i64 192,.int .i64 224,.int .i64 240] 3)).drewN m)) (fun _ v5 _=>n - (intOf v5).toNat)
  case atStart=>exact ⟨0,by rw [HP0.out],rfl,by omega,hid ⟨nq,rfl⟩⟩
  case round=>
   obtain ⟨i,rfl,rfl,hin,HW⟩:=hrel
   by_cases hlt:i + 1 < n
   ·have c1:wr.cell? ⟨b,off + (i + 1),none⟩ = some (.int .u8 (l.getD (i + 1) 0).toNat):=by
     obtain ⟨m,rfl⟩:=HW.out
     have:=HB.out (i + 1) (by have:=HN.out;omega)
     have hb1:(w.alloc (.cells #[.int .i64 0,.int .i64 0,.int .i64 192,.int .i64 224,.int .i64 240] 3)).cell? ⟨b,off + (i + 1),none⟩ = w.cell? ⟨b,off + (i + 1),none⟩:=((Below.refl w.heap.size w).alloc (Nat.le_refl _) _).cell (p:=⟨b,off + (i + 1),none⟩) hbl
     simpa [go_sem] using hb1.trans this
    obtain ⟨p1,p2⟩:=HBD.out i (by omega)
    obtain ⟨p3,p4⟩:=HBD.out (i + 1) (by omega)
    obtain ⟨y,hy⟩:∃ y,y = (l.getD (i + 1) 0).toNat:=⟨_,rfl⟩
    have hy8:y < 256:=by rw [hy];exact UInt8.toNat_lt _
    obtain ⟨M,hM⟩:∃ M:Nat,M = y % 64:=⟨_,rfl⟩
    have hP1:numP l n (i + 1) = numP l n i * 64 + (M:Int):=by rw [hM,hy];rfl
    obtain ⟨P,hP⟩:∃ P,P = numP l n i:=⟨_,rfl⟩
    rw [←hP] at p1 p2 hP1 ⊢
    rw [hP1] at p3 p4
    have HP1:=hid hP1
    rw [←hy] at c1
    have r1:(y:Int).tmod 64 = (M:Int):=by rw [Int.tmod_eq_emod_of_nonneg (by omega),hM];omega
    have g1:(0:Int)≤(i:Int) + 1:=by omega
    have g2:(i:Int) + 1 < (n:Int):=by omega
    have g3:i + 1 < cap:=by omega
    have g4:((i:Int) + 1).toNat = i + 1:=by omega
    have m1:M < 64:=by omega
    have e1:((i + 1:Nat):Int) = (i:Int) + 1:=by omega
    rw [e1]
    clear hy hM hP hP1 e1
    go_wp2
    go_roundw
    case rel=>exact ⟨i + 1,by rw [HP1.out],by go_num,by omega,HW⟩
    case measure=>simp [intOf];omega
   ·have hi1:i = n - 1:=by omega
    have HE:Hid (numP l n i = numR l):=hid (by rw [HV.out,hi1])
    have g2:¬ ((i + 1:Nat):Int) < (n:Int):=by omega
    rw [HE.out]
    clear hi1
    go_wp2
    go_ret
    obtain ⟨m,rfl⟩:=HW.out
    exact ⟨rfl,below_drewN ((Below.refl _ _).alloc (Nat.le_refl _) _) m⟩
end Go.Proofs.YtpcbamcelpcigaaGreat
namespace Go.Proofs.YtpcbamcelpcigaaGreat
open Go.RowKit Go.Shelf Go.ChangeShapes Go.WideShapes
def frR (n:Nat):Int:=if n = 2 then 128 else if n = 3 then 2048 else if n = 4 then 65536 else 0
def fillB (l:Bs) (c:UInt8) (n:Nat):Bs:=l ++ List.replicate (n - l.length) c
def begR (l:Bs):Bool:=if lenR (l.getD 0 0).toNat < l.length∨tailsR l = false then false else
 decide (frR (lenR (l.getD 0 0).toNat)≤numR (fillB l 191 (lenR (l.getD 0 0).toNat))∧numR (fillB l 128 (lenR (l.getD 0 0).toNat))≤1114111∧(numR (fillB l 128 (lenR (l.getD 0 0).toNat)) < 55296∨57343 < numR (fillB l 191 (lenR (l.getD 0 0).toNat))))
theorem begR_eq (l:Bs):begR l = (if lenR (l.getD 0 0).toNat < l.length∨tailsR l = false then false else
 decide (frR (lenR (l.getD 0 0).toNat)≤numR (fillB l 191 (lenR (l.getD 0 0).toNat))∧numR (fillB l 128 (lenR (l.getD 0 0).toNat))≤1114111∧(numR (fillB l 128 (lenR (l.getD 0 0).toNat)) < 55296∨57343 < numR (fillB l 191 (lenR (l.getD 0 0).toNat))))):=rfl
theorem fillB_len {l:Bs} {c:UInt8} {n:Nat} (h:l.length≤n):(fillB l c n).length = n:=by simp [fillB];omega
theorem fillB_head {l:Bs} {c:UInt8} {n:Nat} (h:1≤l.length):(fillB l c n).getD 0 0 = l.getD 0 0:=by
 unfold fillB
 rw [List.getD_eq_getElem?_getD,List.getD_eq_getElem?_getD,List.getElem?_append_left (by omega)]
theorem fillB_next (l:Bs) (c:UInt8) (k:Nat) (h:l.length≤k):fillB l c (k + 1) = fillB l c k ++ [c]:=by
 unfold fillB
 rw [show k + 1 - l.length = k - l.length + 1 by omega,List.replicate_succ',List.append_assoc]
theorem byteCells_app (a b:Bs):Lib.byteCells (a ++ b) = Lib.byteCells a ++ Lib.byteCells b:=by simp [Lib.byteCells]
theorem lenR_le (c : Nat) : lenR c ≤ 4 := by unfold lenR; repeat' split
                                             all_goals omega
theorem row_bytes {W:World} {base:Nat} {v:Value} {n:Nat} {l:Bs} (h:W.ownsRow base 5 1 v n (Lib.byteCells l)) (hn:0 < n):∃ g cap,v = .slice (some ⟨g,0,none⟩) n cap∧n≤cap∧g < W.heap.size∧base≤g∧BytesAt W g 0 l:=by
 have h2:=h.2
 rcases h2 with ⟨_,h0⟩ | ⟨g,cap,cur,hv,hb,hg,hnc,_⟩
 ·omega
 ·subst hv
  refine ⟨g,cap,rfl,hnc,(Array.getElem?_eq_some_iff.1 hg).1,hb,fun j hj=>?_⟩
  have hl:=h.1
  have:=h.cellAt j (by simp [Lib.byteCells] at hl;omega)
  rw [Nat.zero_add,this,Lib.byteCells,List.getElem?_map,List.getElem?_eq_getElem hj,List.getD_eq_getElem?_getD,List.getElem?_eq_getElem hj]
  rfl
structure Beg (w:World) (l:Bs) (k:Nat) (v1 v2:Value) (W:World):Prop where
 r1:W.ownsRow w.heap.size 5 1 v1 k (Lib.byteCells (fillB l 128 k))
 r2:W.ownsRow w.heap.size 5 1 v2 k (Lib.byteCells (fillB l 191 k))
 ne:∀ j,v1.ownBlock = some j→v2.ownBlock = some j→False
 bel:Below w.heap.size w W
theorem news_of {w W:World} {b off:Nat} {l:Bs} {B:Nat} (h:BytesAt w b off l) (hb:Below B w W) (hl:b < B):∀ (j:Nat) (u:Value),(Lib.byteCells l)[j]? = some u→W.cell? ((⟨b,off,none⟩:Addr).add j) = some u:=fun j u hu=>by
 have hj:j < l.length:=by
  have:=(List.getElem?_eq_some_iff.1 hu).1
  simpa [Lib.byteCells] using this
 rw [add_plain,hb.cell (p:=⟨b,off + j,none⟩) hl,h j hj]
 rw [Lib.byteCells,List.getElem?_map,List.getElem?_eq_getElem hj] at hu
 rw [List.getD_eq_getElem?_getD,List.getElem?_eq_getElem hj]
 exact hu
theorem row_keeps {W W':World} {B k:Nat} {v:Value} {xs:List Value} {row:Option Nat} (h:W.ownsRow B 5 1 v k xs) (hg:W.grownBy W' row) (hne:∀ j,row = some j→v.ownBlock = some j→False):W'.ownsRow B 5 1 v k xs:=
 row_kept h (fun j hj=>hg.block j (h.lt j hj).2 (fun e=>hne j e.symm hj))
theorem fillB_self (l:Bs) (c:UInt8):fillB l c l.length = l:=by simp [fillB]
theorem beg_first {w w1:World} {n:Nat} {l:Bs} {v1:Value} (ho:w1.ownsRow w.heap.size 5 1 v1 (0 + n) ([] ++ Lib.byteCells l)) (hg:(w.alloc (.cells #[] 5)).grownBy w1 (Value.ownBlock (.slice (some ⟨w.heap.size,0,none⟩) 0 0))):w1.ownsRow w.heap.size 5 1 v1 n (Lib.byteCells l)∧Below w.heap.size w w1:=by
 rw [Nat.zero_add,List.nil_append] at ho
 exact ⟨ho,((Below.refl w.heap.size w).alloc (Nat.le_refl _) (.cells #[] 5)).grown hg (by simp) (fun j hj=>by cases hj;exact Nat.le_refl _)⟩
theorem beg_second {w w1 w2:World} {n:Nat} {l:Bs} {v1 v2:Value} (h1:w1.ownsRow w.heap.size 5 1 v1 n (Lib.byteCells l)) (hb:Below w.heap.size w w1) (ho:w2.ownsRow w.heap.size 5 1 v2 (0 + n) ([] ++ Lib.byteCells l)) (hg:(w1.alloc (.cells #[] 5)).grownBy w2 (Value.ownBlock (.slice (some ⟨w1.heap.size,0,none⟩) 0 0)))
  (ha:v2.ownBlock = Value.ownBlock (.slice (some ⟨w1.heap.size,0,none⟩) 0 0)∨v2.ownBlock = some (w1.alloc (.cells #[] 5)).heap.size) (hn:n = l.length):Beg w l n v1 v2 w2:=by
 rw [Nat.zero_add,List.nil_append] at ho
 subst hn
 have hlt:=fun j hj=>(h1.lt j hj).2
 refine ⟨?_,by rw [fillB_self];exact ho,fun j e1 e2=>?_,(hb.alloc hb.size (.cells #[] 5)).grown hg (by have:=hb.size;simp;omega) (fun j hj=>by cases hj;exact hb.size)⟩
 ·rw [fillB_self]
  refine row_keeps (row_kept h1 (fun j hj=>Below.heap_alloc _ _ _ (hlt j hj))) hg (fun j e1 e2=>?_)
  have e3:w1.heap.size = j:=by simpa [Value.ownBlock] using e1
  have:=hlt _ e2
  omega
 ·have h3:=hlt j e1
  rcases ha with e | e
  ·have e3:j = w1.heap.size:=by rw [e2] at e;simpa [Value.ownBlock] using e
   omega
  ·rw [e2] at e;simp at e;omega
theorem apart_at {W:World} {B k:Nat} {v v' u:Value} {xs:List Value} (hu:W.ownsRow B 5 1 u k xs) (hne:∀ j,v.ownBlock = some j→u.ownBlock = some j→False) (ha:v'.ownBlock = v.ownBlock∨v'.ownBlock = some W.heap.size):∀ j,v'.ownBlock = some j→u.ownBlock = some j→False:=fun j e1 e2=>by
 rcases ha with e | e
 ·exact hne j (by rw [←e];exact e1) e2
 ·have:=(hu.lt j e2).2
  rw [e1] at e
  cases e
  omega
structure Beg1 (w:World) (l:Bs) (k:Nat) (v1 v2:Value) (W:World):Prop where
 r1:W.ownsRow w.heap.size 5 1 v1 (k + 1) (Lib.byteCells (fillB l 128 (k + 1)))
 r2:W.ownsRow w.heap.size 5 1 v2 k (Lib.byteCells (fillB l 191 k))
 ne:∀ j,v1.ownBlock = some j→v2.ownBlock = some j→False
 bel:Below w.heap.size w W
theorem beg_app1 {w W w1:World} {l:Bs} {k:Nat} {v1 v2 v':Value} {o:Obj} (h:Beg w l k v1 v2 W) (hk:l.length≤k) (ho:w1.ownsRow w.heap.size 5 1 v' (k + 1) (Lib.byteCells (fillB l 128 k) ++ [.int .u8 128])) (hg:(W.alloc o).grownBy w1 v1.ownBlock) (ha:v'.ownBlock = v1.ownBlock∨v'.ownBlock = some (W.alloc o).heap.size):Beg1 w l k v' v2 w1:=by
 have h2:(W.alloc o).ownsRow w.heap.size 5 1 v2 k (Lib.byteCells (fillB l 191 k)):=row_kept h.r2 (fun j hj=>Below.heap_alloc _ _ _ (h.r2.lt j hj).2)
 refine ⟨?_,row_keeps h2 hg h.ne,apart_at h2 h.ne ha,(h.bel.alloc h.bel.size o).grown hg (by have:=h.bel.size;simp;omega) (fun j hj=>(h.r1.lt j hj).1)⟩
 rw [fillB_next _ _ _ hk,byteCells_app]
 exact ho
theorem beg_app2 {w W w1:World} {l:Bs} {k:Nat} {v1 v2 v':Value} {o:Obj} (h:Beg1 w l k v1 v2 W) (hk:l.length≤k) (ho:w1.ownsRow w.heap.size 5 1 v' (k + 1) (Lib.byteCells (fillB l 191 k) ++ [.int .u8 191])) (hg:(W.alloc o).grownBy w1 v2.ownBlock) (ha:v'.ownBlock = v2.ownBlock∨v'.ownBlock = some (W.alloc o).heap.size):Beg w l (k + 1) v1 v' w1:=by
 have h2:(W.alloc o).ownsRow w.heap.size 5 1 v1 (k + 1) (Lib.byteCells (fillB l 128 (k + 1))):=row_kept h.r1 (fun j hj=>Below.heap_alloc _ _ _ (h.r1.lt j hj).2)
 have hn:∀ j,v2.ownBlock = some j→v1.ownBlock = some j→False:=fun j a b=>h.ne j b a
 refine ⟨row_keeps h2 hg hn,?_,fun j a b=>apart_at h2 hn ha j b a,(h.bel.alloc h.bel.size o).grown hg (by have:=h.bel.size;simp;omega) (fun j hj=>(h.r2.lt j hj).1)⟩
 rw [fillB_next _ _ _ hk,byteCells_app]
 exact ho
def slLen:Value→Nat
 | .slice _ n _=>n
 | _=>0
theorem rbegins (b off cap:Nat) (l:Bs) (hl:l.length≤cap) (hl1:1≤l.length) (hl2:l.length≤1000000) (w:World) (h:BytesAt w b off l) (hbl:b < w.heap.size):Calls Tryz.prog 138 #[.slice (some ⟨b,off,none⟩) l.length cap] w fun e w'=>e = .returned (.bool (begR l))∧Below w.heap.size w w':=by
 obtain ⟨i0,hi,hz0,hz1,hz2⟩:=info_parts5
 have HI5:=hid (And.intro hi (And.intro hz0 (And.intro hz1 hz2)))
 have HB:=hid h
 have c0:=h 0 (by omega)
 rw [Nat.add_zero] at c0
 have HTL:=hid (fun W hW=>rtails b off cap l hl hl2 W hW)
 have HV:=hid (begR_eq l)
 have HLE:=hid (rlength (l.getD 0 0).toNat w)
 have HNL:=hid (lenR_le (l.getD 0 0).toNat)
 have HNR:=hid (fun (c:UInt8) (h1:l.length≤lenR (l.getD 0 0).toNat) (g cap:Nat) (hc:lenR (l.getD 0 0).toNat≤cap) (W:World) (hW:BytesAt W g 0 (fillB l c (lenR (l.getD 0 0).toNat))) (hg:g < W.heap.size)=>(show Calls Tryz.prog 139 #[.slice (some ⟨g,0,none⟩) (lenR (l.getD 0 0).toNat) cap] W fun e w'=>e = .returned (.int .i32 (numR (fillB l c (lenR (l.getD 0 0).toNat))))∧Below W.heap.size W w' from by
  have h2:=fillB_len (c:=c) h1
  have h3:=rnumber g 0 cap (fillB l c (lenR (l.getD 0 0).toNat)) (by omega) (by omega) (by rw [fillB_head hl1,h2]) W hW hg
  rw [h2] at h3
  exact h3))
 obtain ⟨N,hN⟩:∃ N,N = lenR (l.getD 0 0).toNat:=⟨_,rfl⟩
 rw [←hN] at HV HLE HNL HNR
 have HLL:=hid hl1
 obtain ⟨x,hx⟩:∃ x,x = (l.getD 0 0).toNat:=⟨_,rfl⟩
 rw [←hx] at c0 HLE
 obtain ⟨R,hR⟩:∃ R,R = begR l:=⟨_,rfl⟩
 rw [←hR] at HV ⊢
 obtain ⟨Tl,hTl⟩:∃ T,T = tailsR l:=⟨_,rfl⟩
 rw [←hTl] at HTL HV
 obtain ⟨n,hn⟩:∃ n,n = l.length:=⟨_,rfl⟩
 have HN:=hid hn
 rw [←hn] at hl hl2 HTL HV HNR hl1 ⊢
 have hN4:N≤4:=HNL.out
 have i0':(0:Int) < (n:Int):=by omega
 have hc1:0 < cap:=by omega
 clear h hi hz0 hz1 hz2 hN hx hR hTl hn
 by_cases hgt:N < n
 ·have HR:Hid (R = false):=hid (by rw [HV.out,if_pos (.inl hgt)])
  have i1:(N:Int) < (n:Int):=by omega
  go_enter Tryz.func138,Tryz.ntmps138
  go_wp2_with (first | (go_at_call 137;(with_reducible refine HLE.out.mono ?_);rintro e w' ⟨rfl,rfl⟩))
  go_ret
  exact ⟨ret_bool HR.out.symm,Below.refl _ _⟩
 ·have i1:¬ (N:Int) < (n:Int):=by omega
  cases Tl
  ·have HR:Hid (R = false):=hid (by rw [HV.out,if_pos (.inr rfl)])
   have HTW:=hid (HTL.out w HB.out)
   go_enter Tryz.func138,Tryz.ntmps138
   go_wp2_with (first | (go_at_call 137;(with_reducible refine HLE.out.mono ?_);rintro e w' ⟨rfl,rfl⟩) | (go_at_call 172;(with_reducible refine HTW.out.mono ?_);rintro e w' ⟨rfl,rfl⟩))
   go_ret
   exact ⟨ret_bool HR.out.symm,Below.refl _ _⟩
  ·have HTW:=hid (HTL.out w HB.out)
   have HR0:=hid (World.ownsRow_made (base:=w.heap.size) (size:=1) (e:=5) w #[] 0 (Nat.le_refl _) (by unfold maxLen;omega) rfl)
   have HN0:=hid (news_of HB.out ((Below.refl w.heap.size w).alloc (Nat.le_refl _) (.cells #[] 5)) hbl)
   have HBY:=hid (byteCells_one l)
   have HLN:=hid (show (Lib.byteCells l).length = n * 1 by rw [HN.out];simp [Lib.byteCells])
   go_enter Tryz.func138,Tryz.ntmps138
   go_wp2_with (first | (go_at_call 137;(with_reducible refine HLE.out.mono ?_);rintro e w' ⟨rfl,rfl⟩) | (go_at_call 172;(with_reducible refine HTW.out.mono ?_);rintro e w' ⟨rfl,rfl⟩) | (at_builtin;refine wpList_append_own_at _ rfl _ _ 110 rfl w.heap.size 5 i0 (.int .u8 0) 1 1 Tryz.underlying110 HI5.out.1 HI5.out.2.1 HI5.out.2.2.1 HI5.out.2.2.2 rfl (by decide) _ _ _ rfl HR0.out ⟨b,off,none⟩ n cap (Lib.byteCells l) rfl HLN.out HN0.out HBY.out (by unfold maxLen;omega) (by omega) (by simp) ?_;intro v1 w1 ho1 hg1 _ ha1;have HA1:=hid (beg_first ho1 hg1);have HN1:=hid (news_of HB.out (HA1.out.2.alloc HA1.out.2.size (.cells #[] 5)) hbl);have HR1:=hid (World.ownsRow_made (base:=w.heap.size) (size:=1) (e:=5) w1 #[] 0 HA1.out.2.size (by unfold maxLen;omega) rfl);clear ho1 hg1 ha1 HR0 HN0) | (at_builtin;go_loud (refine wpList_append_own_at _ rfl _ _ 110 rfl w.heap.size 5 i0 (.int .u8 0) 1 1 Tryz.underlying110 HI5.out.1 HI5.out.2.1 HI5.out.2.2.1 HI5.out.2.2.2 rfl (by decide) _ _ _ rfl HR1.out ⟨b,off,none⟩ n cap (Lib.byteCells l) rfl HLN.out HN1.out HBY.out (by unfold maxLen;omega) (by omega) (by have:=HA1.out.2.size;simp;omega) ?_);intro v2 w2 ho2 hg2 _ ha2;have HS:=hid (beg_second HA1.out.1 HA1.out.2 ho2 hg2 ha2 HN.out);clear ho2 hg2 ha2 HR1 HN1 HA1))
   have HBI:=hid (show Beg w l n v1 v2 w2 from HS.out)
   clear HS HTW HTL HLE c0
   go_loopw [4,5] (fun a1 a2 wr=>∃ k:Nat,n≤k∧k≤N∧Hid (Beg w l k a1 a2 wr)) (fun a1 _ _=>N - slLen a1)
   case atStart=>exact ⟨n,Nat.le_refl _,by omega,HBI⟩
   case round=>
    clear HBI
    obtain ⟨k,hnk,hkN,HK⟩:=hrel
    obtain ⟨y1,d1,rfl⟩:=ownsRow_is HK.out.r1
    obtain ⟨y2,d2,rfl⟩:=ownsRow_is HK.out.r2
    by_cases hlt:k < N
    ·have i2:(k:Int) < (N:Int):=by omega
     have hlk:l.length≤k:=by have:=HN.out;omega
     go_wp2_with (first | (at_builtin;refine wpList_append_own_at _ rfl _ _ 110 rfl w.heap.size 5 i0 (.int .u8 0) 1 1 Tryz.underlying110 HI5.out.1 HI5.out.2.1 HI5.out.2.2.1 HI5.out.2.2.2 rfl (by decide) _ _ _ rfl (HK.out.r1.alloc _) ⟨wr.heap.size,0,none⟩ 1 1 [.int .u8 128] rfl rfl (cell_one_new _ _ _) (by simp [Value.oneCell']) (by unfold maxLen;omega) (by omega) (by have:=HK.out.bel.size;simp;omega) ?_;intro v1 w3 ho1 hg1 _ ha1;have HA3:=hid (beg_app1 HK.out hlk ho1 hg1 ha1);clear ho1 hg1 ha1) | (at_builtin;go_loud (refine wpList_append_own_at _ rfl _ _ 110 rfl w.heap.size 5 i0 (.int .u8 0) 1 1 Tryz.underlying110 HI5.out.1 HI5.out.2.1 HI5.out.2.2.1 HI5.out.2.2.2 rfl (by decide) _ _ _ rfl (HA3.out.r2.alloc _) ⟨w3.heap.size,0,none⟩ 1 1 [.int .u8 191] rfl rfl (cell_one_new _ _ _) (by simp [Value.oneCell']) (by unfold maxLen;omega) (by omega) (by have:=HA3.out.bel.size;simp;omega) ?_);intro v2 w4 ho2 hg2 _ ha2;have HS:=hid (beg_app2 HA3.out hlk ho2 hg2 ha2);clear ho2 hg2 ha2 HA3))
     go_roundw
     case rel=>exact ⟨k + 1,by omega,by omega,HS⟩
     case measure=>
      obtain ⟨y3,d3,hv3⟩:=ownsRow_is HS.out.r1
      rw [hv3]
      simp [slLen]
      omega
    ·obtain rfl:k = N:=by omega
     have i2:¬ (k:Int) < (k:Int):=by omega
     obtain ⟨g1,e1,hv1,hc1',hg1,_,hb1⟩:=row_bytes HK.out.r1 (by omega)
     obtain ⟨g2,e2,hv2,hc2',hg2,_,hb2⟩:=row_bytes HK.out.r2 (by omega)
     cases hv1
     cases hv2
     have HQ1:=hid (HNR.out 128 (by omega) g1 d1 hc1' wr hb1 hg1)
     have HQ2:=hid (And.intro hb2 (And.intro hg2 hc2'))
     have HBE:=hid HK.out.bel
     obtain ⟨X,hX⟩:∃ X,X = numR (fillB l 128 k):=⟨_,rfl⟩
     obtain ⟨Y,hY⟩:∃ X,X = numR (fillB l 191 k):=⟨_,rfl⟩
     rw [←hX] at HQ1 HV
     have HNR2:=hid (HNR.out 191 (by omega))
     rw [←hY] at HNR2 HV
     clear HNR HK hb1 hb2 hg1 hg2 hc1' hc2' hX hY hlt
     go_wp2_with (first | (go_at_call 139;fail))
     go_at_call 139
     refine HQ1.out.mono ?_
     rintro e w5 ⟨rfl,hb5⟩
     have HQ3:=hid (And.intro (HQ2.out.1.kept HQ2.out.2.1 hb5) (And.intro (show g2 < w5.heap.size by have:=hb5.size;have:=HQ2.out.2.1;omega) (HBE.out.trans (below_le hb5 HBE.out.size))))
     clear hb5 HQ1
     go_wp2_with (first | (go_at_call 139;fail))
     go_at_call 139
     refine (HNR2.out g2 d2 HQ2.out.2.2 w5 HQ3.out.1 HQ3.out.2.1).mono ?_
     rintro e w6 ⟨rfl,hb6⟩
     have HB6:=hid (HQ3.out.2.2.trans (below_le hb6 HQ3.out.2.2.size))
     clear hb6 HNR2 HQ2 HQ3 HBE
     have hfr:(w6.alloc (.cells #[.int .i32 0,.int .i32 0,.int .i32 128,.int .i32 2048,.int .i32 65536] 21)).cell? ⟨w6.heap.size,k,none⟩ = some (.int .i32 (frR k)):=by
      have h3:k = 1∨k = 2∨k = 3∨k = 4:=by omega
      rcases h3 with e | e | e | e <;> rw [e] <;> simp [go_sem,frR]
     obtain ⟨F,hF⟩:∃ F,F = frR k:=⟨_,rfl⟩
     rw [←hF] at hfr HV
     have HVV:Hid (R = decide (F≤Y∧X≤1114111∧(X < 55296∨57343 < Y))):=hid (by rw [HV.out,if_neg (by simp;omega)])
     have i3:(0:Int)≤(k:Int):=by omega
     have i4:(k:Int) < 5:=by omega
     clear HV hF
     have hcs:(¬ F≤Y∧R = false)∨(F≤Y∧¬ X≤1114111∧R = false)∨(F≤Y∧X≤1114111∧X < 55296∧R = true)∨(F≤Y∧X≤1114111∧¬ X < 55296∧R = decide (57343 < Y)):=by
      rw [HVV.out]
      by_cases a1:F≤Y
      ·by_cases a2:X≤1114111
       ·by_cases a3:X < 55296
        ·exact .inr (.inr (.inl ⟨a1,a2,a3,by rw [decide_eq_true_iff];omega⟩))
        ·exact .inr (.inr (.inr ⟨a1,a2,a3,by rw [decide_eq_decide];omega⟩))
       ·exact .inr (.inl ⟨a1,a2,by rw [decide_eq_false_iff_not];omega⟩)
      ·exact .inl ⟨a1,by rw [decide_eq_false_iff_not];omega⟩
     clear HVV
     rcases hcs with ⟨a1,rr⟩ | ⟨a1,a2,rr⟩ | ⟨a1,a2,a3,rr⟩ | ⟨a1,a2,a3,rr⟩
     all_goals
      have HRR:=hid rr
      clear rr
      go_wp2
      go_ret
      first | exact ⟨ret_bool HRR.out.symm,HB6.out.alloc HB6.out.size _⟩ | exact ⟨ret_bool (by rw [HRR.out];simp;omega),HB6.out.alloc HB6.out.size _⟩
end Go.Proofs.YtpcbamcelpcigaaGreat
