/- Own texts, merged. -/
import Derived.WalkKit
import Derived.Laws.Rows
import Derived.OrdersHeld
import Derived.Laws.CopyOwn
import Derived.Test.YtpcbamcelpcigaaGreatMC13
import Derived.Test.YtpcbamcelpcigaaGreatMC24
import Derived.Test.YtpcbamcelpcigaaGreatMC25
import Derived.Test.YtpcbamcelpcigaaGreatMC27
import Derived.Test.YtpcbamcelpcigaaGreatMC34
import Derived.Test.YtpcbamcelpcigaaGreatMC36
import Derived.Test.YtpcbamcelpcigaaGreatMC37
import Derived.Test.YtpcbamcelpcigaaGreatMC00
set_option maxRecDepth 100000
set_option maxHeartbeats 32000000
open Go.Lib (hid)
namespace Go.Proofs.YtpcbamcelpcigaaGreat
open Go.RowKit Go.Shelf
attribute [local go_sem] run_store_float
theorem rvalue21 (f:Fld) (xo:Option Addr) (co:Nat) (xl:Option Addr) (cl:Nat) (v:Vle) (x:Option Addr) (c:Nat) (hx:v.f < 18446744073709551616) (hsl:v.s.length≤900000) (hll:v.l.length≤1000000) (hol:f.op.length≤1000000) (w:World) (hi:IntV w (.slice x v.l.length c) v.l) :
  Calls Tryz.prog 39 #[(f.fl xo co xl cl).v,v.v x c] w fun e w'=>e = .returned (.bool (fitsP f v))∧Below w.heap.size w w':=by
 have HPL:=hid (fun W=>rPlace (f.fl xo co xl cl) v.f hx W)
 rw [plc_fl] at HPL
 obtain ⟨R,hR⟩:∃ R,R = fitsP f v:=⟨_,rfl⟩
 rw [←hR]
 unfold fitsP at hR
 generalize placeP f v.f = PL at HPL hR
 obtain ⟨p1,p2⟩:=PL
 have HON:=hid (fun W=>ronly f.k v x c W)
 have HFL:=hid (fun W=>rflat v.s hsl W)
 have HCT:=hid (fun W=>rcut v.s hsl W)
 have HDA:=hid (fun W=>rValid v.s W)
 have HRN:=hid (fun i (hi:i < v.l.length) h=>risP_no (L:=v.l) (m:=(f.op.length:Nat)) (i:=i) hi h)
 have HRY:=hid (fun h=>risP_yes (L:=v.l) (m:=(f.op.length:Nat)) h)
 have HTB:=hid (tx_beq (flatS v.s) v.s)
 have HWR:=hid (fun (u:Int) W=>rwithin u 0 ((f.op.length:Int) - 1) W)
 unfold CutEnd at HCT
 obtain ⟨k,nm0,lb0,op,mn,mx,lo,hi',st,⟨ds0,dn,db,dl,df⟩,sh0,ck0⟩:=f
 have HWI:=hid (fun W=>rwithin v.n (-999999999999999) 999999999999999 W)
 have HWO:=hid (fun W=>rwithin v.n 0 ((op.length:Int) - 1) W)
 unfold Fld.fl at HPL ⊢
 unfold FL.v FL.a at HPL ⊢
 unfold Vle.v dvlV at HON ⊢
 simp only at HPL HON HRN HRY HWR hR hol ⊢
 have HE:=hid (isEmpty_tx v.s)
 generalize tx nm0 = nm at HPL ⊢
 generalize tx lb0 = lb at HPL ⊢
 generalize tx ds0 = ds at HPL ⊢
 generalize tx sh0 = sh at HPL ⊢
 generalize tx ck0 = ck at HPL ⊢
 generalize dl.length = nl at HPL ⊢
 obtain ⟨vs,vn,vb,vl,vf⟩:=v
 simp only at hx hsl hll hi HPL HON HFL HCT HTB HDA HRN HRY HWI HWO HE hR ⊢
 generalize onlyP k ⟨vs,vn,vb,vl,vf⟩ = OB at HON hR
 have hfp:flatP vs 0 mx = (decide (flatS vs = vs) && decide (((cutS vs).length:Int)≤mx)):=by unfold flatP;congr 1;rw [decide_eq_decide];omega
 rw [hfp] at hR
 generalize decide (flatS vs = vs) = FB at HTB hR
 generalize cutS vs = CL at HCT hR
 generalize tx (flatS vs) = FS at HFL HTB
 clear hfp
 generalize dateP vs = DB at HDA hR
 generalize risP vl (op.length:Nat) = RB at HRN HRY hR
 generalize decide (-999999999999999≤vn∧vn≤999999999999999) = WB at HWI hR
 generalize decide (0≤vn∧vn≤(op.length:Int) - 1) = WO at HWO hR
 generalize decide (vs = []) = EB at HE hR
 generalize tx vs = s at HON HFL HCT HTB HDA HE ⊢
 generalize op.length = no at HPL HRN HRY HWR HWO hol ⊢
 obtain ⟨B1,hB1⟩:∃ W1,W1 = (w.alloc (.cells #[.int .i64 k,.string nm,.string lb,.slice xo no co,.int .i64 mn,.int .i64 mx,.float .f64 lo,.float .f64 hi',.float .f64 st,.string ds,.int .i64 dn,.bool db,.slice xl nl cl,.float .f64 df,.string sh,.string ck] 42)).alloc
  (.cells #[.string s,.int .i64 vn,.bool vb,.slice x vl.length c,.float .f64 vf] 40):=⟨_,rfl⟩
 have hbl:Below w.heap.size w B1:=by rw [hB1];exact ((Below.refl _ _).alloc (Nat.le_refl _) _).alloc (by simp) _
 have HFB:Hid (FLB B1 w.heap.size ⟨k,nm,lb,xo,no,co,mn,mx,lo,hi',st,ds,dn,db,xl,nl,cl,df,sh,ck⟩):=hid (by rw [hB1];exact (heap_alloc_old _ _ (by simp)).trans (heap_alloc_new _ _))
 have HVB:Hid (VLB B1 (w.heap.size + 1) s vn vb x vl.length c vf):=hid (by rw [hB1];exact heap_at (heap_alloc_new _ _) (by simp))
 have HIN:=hid (hi.below hbl)
 have HBL:=hid hbl
 have HR:=hid hR
 clear hbl hi hR hx hsl
 obtain ⟨c0,c1,c2,c3,c4,c5,c6,c7,c8,c9,c10,c11,c12,c13,c14,c15⟩:=HFB.out.cells
 simp only at c0 c1 c2 c3 c4 c5 c6 c7 c8 c9 c10 c11 c12 c13 c14 c15
 obtain ⟨d0,d1,d2,d3,d4⟩:=HVB.out.cells
 have hlt:=HFB.out.lt
 have hlv:=HVB.out.lt
 go_enter Tryz.func39,Tryz.ntmps39
 go_wp2_with (first | (go_at_call 61;fail))
 rw [←hB1]
 go_at_call 61
 refine (HON.out _).mono ?_
 rintro e w2 ⟨rfl,hb2⟩
 replace HFB:=hid (HFB.out.below hb2)
 replace HVB:=hid (HVB.out.below hb2)
 replace HIN:=hid (HIN.out.below hb2)
 replace HBL:=hid (HBL.out.trans (below_le hb2 HBL.out.size))
 clear hb2 hB1 HON c0 c1 c2 c3 c4 c5 c6 c7 c8 c9 c10 c11 c12 c13 c14 c15 d0 d1 d2 d3 d4 hlt hlv
 obtain ⟨c0,c1,c2,c3,c4,c5,c6,c7,c8,c9,c10,c11,c12,c13,c14,c15⟩:=HFB.out.cells
 simp only at c0 c1 c2 c3 c4 c5 c6 c7 c8 c9 c10 c11 c12 c13 c14 c15
 obtain ⟨d0,d1,d2,d3,d4⟩:=HVB.out.cells
 have hlt:=HFB.out.lt
 have hlv:=HVB.out.lt
 cases OB
 ·have HR2:Hid (R = false):=hid (by rw [HR.out];rfl)
  clear HR HPL HFL HCT HTB HDA HRN HRY HWR HWI HWO HIN HE
  go_wp2
  go_ret
  exact ⟨ret_bool HR2.out.symm,HBL.out⟩
 go_upto_region 3 with (fail)
 have HTR:=hid (fun (w3:World) (hb:Below w2.heap.size w2 w3)=>HBL.out.trans (below_le hb HBL.out.size))
 rcases kind_all k with rfl | rfl | rfl | rfl | rfl | rfl | rfl | rfl | rfl | hk
 case inl=>
  have HR1:Hid (R = (FB && decide ((CL.length:Int)≤mx))):=hid (by rw [HR.out];simp)
  clear HR HPL HDA HRN HRY HWR HWI HWO HIN HE
  have HSC:Hid (∀ W,Below w2.heap.size w2 W→W.cell? ⟨w.heap.size + 1,0,none⟩ = some (.string s)∧W.cell? ⟨w.heap.size,5,none⟩ = some (.int .i64 mx)):=hid (fun W h=>by
   obtain ⟨_,_,_,_,_,q5,_⟩:=(HFB.out.below h).cells
   exact ⟨(HVB.out.below h).cells.1,q5⟩)
  have HS0:=hid (HSC.out _ (Below.refl _ _).drew)
  obtain ⟨ml,hml⟩:∃ ml,ml = CL.length:=⟨_,rfl⟩
  rw [←hml] at HCT HR1
  have ht:=HTB.out
  clear hml HTB
  go_upto_region 6 with (fail)
  cases FB
  ·have HR2:Hid (R = false):=hid (by rw [HR1.out];rfl)
   refine wp_region_held (S:=(fun w'=>w'.cell? ⟨w.heap.size + 1,0,none⟩ = some (.string s)∧w'.cell? ⟨w.heap.size,5,none⟩ = some (.int .i64 mx))) (by kernel_rfl) ?_
   change wpAnyH _ _ _ _ _ _ _ _ (World.drew _)
   refine tkH (i:=0) HS0.out ?_
   try simp only [Act.put,zz1,zz2,zz3,zz4,zz6]
   refine tkH (i:=1) HS0.out ?_
   try simp only [Act.put,zz1,zz2,zz3,zz4,zz5,zz6]
   refine tkH (i:=3) HS0.out ?_
   try simp only [Act.put,zz1,zz2,zz3,zz4,zz5,zz6]
   refine tkH (i:=4) HS0.out ?_
   try simp only [Act.put,zz1,zz2,zz3,zz4,zz5,zz6]
   refine wpAnyH_ready (rs:=[2]) (by kernel_rfl) (by simp) ?_
   refine AllReadyH.cons rfl (fun K hK=>?_) AllReadyH.nil
   go_simp
   go_at_call 55
   refine (HFL.out _).mono ?_
   rintro e w5 ⟨rfl,hb5⟩
   have HB5:Hid (Below w2.heap.size w2 w5):=hid ((Below.refl _ _).drew.trans hb5)
   have HS5:=hid (HSC.out _ HB5.out)
   clear hb5
   refine hK.out _ _ HS5.out (fun _=>?_)
   clear hK K
   try simp only [Act.put,zz1,zz2,zz3,zz4,zz5,zz6]
   refine tkH (i:=5) HS5.out ?_
   try simp only [Act.put,zz1,zz2,zz3,zz4,zz5,zz6]
   refine tkH (i:=6) HS5.out ?_
   try simp only [Act.put,zz1,zz2,zz3,zz4,zz5,zz6]
   first | (refine tkH (i:=7) HS5.out ?_) | (refine wpAnyH_take (i:=7) (v:=_) rfl (by kernel_rfl) (by kernel_rfl) (by kernel_rfl) (fun _ _ _ h=>h) (Or.inr ⟨by rfl,rfl⟩) HS5.out ?_)
   try simp only [Act.put,zz1,zz2,zz3,zz4,zz5,zz6]
   first | (refine tkH (i:=8) HS5.out ?_) | (refine wpAnyH_take (i:=8) (v:=_) rfl (by kernel_rfl) (by kernel_rfl) (by kernel_rfl) (fun _ _ _ h=>h) (Or.inr ⟨by rfl,rfl⟩) HS5.out ?_)
   try simp only [Act.put,zz1,zz2,zz3,zz4,zz5,zz6]
   first | (refine tkH (i:=9) HS5.out ?_) | (refine wpAnyH_take (i:=9) (v:=_) rfl (by kernel_rfl) (by kernel_rfl) (by kernel_rfl) (fun _ _ _ h=>h) (Or.inr ⟨by rfl,rfl⟩) HS5.out ?_)
   try simp only [Act.put,zz1,zz2,zz3,zz4,zz5,zz6]
   first | (refine tkH (i:=10) HS5.out ?_) | (refine wpAnyH_take (i:=10) (v:=_) rfl (by kernel_rfl) (by kernel_rfl) (by kernel_rfl) (fun _ _ _ h=>h) (Or.inr ⟨by rfl,rfl⟩) HS5.out ?_)
   try simp only [Act.put,zz1,zz2,zz3,zz4,zz5,zz6]
   first | (refine tkH (i:=11) HS5.out ?_) | (refine wpAnyH_take (i:=11) (v:=_) rfl (by kernel_rfl) (by kernel_rfl) (by kernel_rfl) (fun _ _ _ h=>h) (Or.inr ⟨by rfl,rfl⟩) HS5.out ?_)
   try simp only [Act.put,zz1,zz2,zz3,zz4,zz5,zz6]
   first | (refine tkH (i:=12) HS5.out ?_) | (refine wpAnyH_take (i:=12) (v:=_) rfl (by kernel_rfl) (by kernel_rfl) (by kernel_rfl) (fun _ _ _ h=>h) (Or.inr ⟨by rfl,rfl⟩) HS5.out ?_)
   try simp only [Act.put,zz1,zz2,zz3,zz4,zz5,zz6]
   first | (refine tkH (i:=13) HS5.out ?_) | (refine wpAnyH_take (i:=13) (v:=_) rfl (by kernel_rfl) (by kernel_rfl) (by kernel_rfl) (fun _ _ _ h=>h) (Or.inr ⟨by rfl,rfl⟩) HS5.out ?_)
   try simp only [Act.put,zz1,zz2,zz3,zz4,zz5,zz6]
   refine tkH (i:=14) HS5.out ?_
   try simp only [Act.put,zz1,zz2,zz3,zz4,zz5,zz6]
   refine tkH (i:=15) HS5.out ?_
   try simp only [Act.put,zz1,zz2,zz3,zz4,zz5,zz6]
   refine wpAnyH_done (by kernel_rfl) ?_ _
   go_wp2
   go_ret
   exact ⟨ret_bool HR2.out.symm,HBL.out.trans (below_le HB5.out HBL.out.size)⟩
  ·have HR2:Hid (R = decide ((ml:Int)≤mx)):=hid (by rw [HR1.out];rfl)
   refine wp_region_held (S:=(fun w'=>w'.cell? ⟨w.heap.size + 1,0,none⟩ = some (.string s)∧w'.cell? ⟨w.heap.size,5,none⟩ = some (.int .i64 mx))) (by kernel_rfl) ?_
   change wpAnyH _ _ _ _ _ _ _ _ (World.drew _)
   refine tkH (i:=0) HS0.out ?_
   try simp only [Act.put,zz1,zz2,zz3,zz4,zz6]
   refine tkH (i:=1) HS0.out ?_
   try simp only [Act.put,zz1,zz2,zz3,zz4,zz5,zz6]
   refine tkH (i:=3) HS0.out ?_
   try simp only [Act.put,zz1,zz2,zz3,zz4,zz5,zz6]
   refine tkH (i:=4) HS0.out ?_
   try simp only [Act.put,zz1,zz2,zz3,zz4,zz5,zz6]
   refine wpAnyH_ready (rs:=[2]) (by kernel_rfl) (by simp) ?_
   refine AllReadyH.cons rfl (fun K hK=>?_) AllReadyH.nil
   go_simp
   go_at_call 55
   refine (HFL.out _).mono ?_
   rintro e w5 ⟨rfl,hb5⟩
   have HB5:Hid (Below w2.heap.size w2 w5):=hid ((Below.refl _ _).drew.trans hb5)
   have HS5:=hid (HSC.out _ HB5.out)
   clear hb5
   refine hK.out _ _ HS5.out (fun _=>?_)
   clear hK K
   try simp only [Act.put,zz1,zz2,zz3,zz4,zz5,zz6]
   refine tkH (i:=5) HS5.out ?_
   try simp only [Act.put,zz1,zz2,zz3,zz4,zz5,zz6]
   refine tkH (i:=6) HS5.out ?_
   try simp only [Act.put,zz1,zz2,zz3,zz4,zz5,zz6]
   refine tkH (i:=7) HS5.out ?_
   try simp only [Act.put,zz1,zz2,zz3,zz4,zz5,zz6]
   refine tkH (i:=8) HS5.out ?_
   try simp only [Act.put,zz1,zz2,zz3,zz4,zz5,zz6]
   refine tkH (i:=11) HS5.out ?_
   try simp only [Act.put,zz1,zz2,zz3,zz4,zz5,zz6]
   refine tkH (i:=12) HS5.out ?_
   try simp only [Act.put,zz1,zz2,zz3,zz4,zz5,zz6]
   refine wpAnyH_ready (rs:=[9]) (by kernel_rfl) (by simp) ?_
   refine AllReadyH.cons rfl (fun K hK=>?_) AllReadyH.nil
   go_simp
   go_at_call 56
   refine (HCT.out _).mono ?_
   rintro e w6 ⟨v6,rfl,ho6,hb6⟩
   obtain ⟨x6,c6,rfl⟩:=ownsRow_is ho6
   have HB6:Hid (Below w2.heap.size w2 w6):=hid (HB5.out.trans (below_le hb6 HB5.out.size))
   have HS6:=hid (HSC.out _ HB6.out)
   clear ho6 hb6
   refine hK.out _ _ HS6.out (fun _=>?_)
   clear hK K
   try simp only [Act.put,zz1,zz2,zz3,zz4,zz5,zz6]
   refine tkH (i:=10) HS6.out ?_
   try simp only [Act.put,zz1,zz2,zz3,zz4,zz5,zz6]
   refine tkH (i:=13) HS6.out ?_
   try simp only [Act.put,zz1,zz2,zz3,zz4,zz5,zz6]
   refine tkH (i:=14) HS6.out ?_
   try simp only [Act.put,zz1,zz2,zz3,zz4,zz5,zz6]
   refine tkH (i:=15) HS6.out ?_
   try simp only [Act.put,zz1,zz2,zz3,zz4,zz5,zz6]
   refine wpAnyH_done (by kernel_rfl) ?_ _
   go_wp2
   go_ret
   exact ⟨ret_bool HR2.out.symm,HBL.out.trans (below_le HB6.out HBL.out.size)⟩
 case inr.inl=>
  have HR1:Hid (R = (FB && decide ((CL.length:Int)≤mx))):=hid (by rw [HR.out];simp)
  clear HR HPL HDA HRN HRY HWR HWI HWO HIN HE
  have HSC:Hid (∀ W,Below w2.heap.size w2 W→W.cell? ⟨w.heap.size + 1,0,none⟩ = some (.string s)∧W.cell? ⟨w.heap.size,5,none⟩ = some (.int .i64 mx)):=hid (fun W h=>by
   obtain ⟨_,_,_,_,_,q5,_⟩:=(HFB.out.below h).cells
   exact ⟨(HVB.out.below h).cells.1,q5⟩)
  have HS0:=hid (HSC.out _ (Below.refl _ _).drew)
  obtain ⟨ml,hml⟩:∃ ml,ml = CL.length:=⟨_,rfl⟩
  rw [←hml] at HCT HR1
  have ht:=HTB.out
  clear hml HTB
  go_upto_region 6 with (fail)
  cases FB
  ·have HR2:Hid (R = false):=hid (by rw [HR1.out];rfl)
   refine wp_region_held (S:=(fun w'=>w'.cell? ⟨w.heap.size + 1,0,none⟩ = some (.string s)∧w'.cell? ⟨w.heap.size,5,none⟩ = some (.int .i64 mx))) (by kernel_rfl) ?_
   change wpAnyH _ _ _ _ _ _ _ _ (World.drew _)
   refine tkH (i:=0) HS0.out ?_
   try simp only [Act.put,zz1,zz2,zz3,zz4,zz6]
   refine tkH (i:=1) HS0.out ?_
   try simp only [Act.put,zz1,zz2,zz3,zz4,zz5,zz6]
   refine tkH (i:=3) HS0.out ?_
   try simp only [Act.put,zz1,zz2,zz3,zz4,zz5,zz6]
   refine tkH (i:=4) HS0.out ?_
   try simp only [Act.put,zz1,zz2,zz3,zz4,zz5,zz6]
   refine wpAnyH_ready (rs:=[2]) (by kernel_rfl) (by simp) ?_
   refine AllReadyH.cons rfl (fun K hK=>?_) AllReadyH.nil
   go_simp
   go_at_call 55
   refine (HFL.out _).mono ?_
   rintro e w5 ⟨rfl,hb5⟩
   have HB5:Hid (Below w2.heap.size w2 w5):=hid ((Below.refl _ _).drew.trans hb5)
   have HS5:=hid (HSC.out _ HB5.out)
   clear hb5
   refine hK.out _ _ HS5.out (fun _=>?_)
   clear hK K
   try simp only [Act.put,zz1,zz2,zz3,zz4,zz5,zz6]
   refine tkH (i:=5) HS5.out ?_
   try simp only [Act.put,zz1,zz2,zz3,zz4,zz5,zz6]
   refine tkH (i:=6) HS5.out ?_
   try simp only [Act.put,zz1,zz2,zz3,zz4,zz5,zz6]
   first | (refine tkH (i:=7) HS5.out ?_) | (refine wpAnyH_take (i:=7) (v:=_) rfl (by kernel_rfl) (by kernel_rfl) (by kernel_rfl) (fun _ _ _ h=>h) (Or.inr ⟨by rfl,rfl⟩) HS5.out ?_)
   try simp only [Act.put,zz1,zz2,zz3,zz4,zz5,zz6]
   first | (refine tkH (i:=8) HS5.out ?_) | (refine wpAnyH_take (i:=8) (v:=_) rfl (by kernel_rfl) (by kernel_rfl) (by kernel_rfl) (fun _ _ _ h=>h) (Or.inr ⟨by rfl,rfl⟩) HS5.out ?_)
   try simp only [Act.put,zz1,zz2,zz3,zz4,zz5,zz6]
   first | (refine tkH (i:=9) HS5.out ?_) | (refine wpAnyH_take (i:=9) (v:=_) rfl (by kernel_rfl) (by kernel_rfl) (by kernel_rfl) (fun _ _ _ h=>h) (Or.inr ⟨by rfl,rfl⟩) HS5.out ?_)
   try simp only [Act.put,zz1,zz2,zz3,zz4,zz5,zz6]
   first | (refine tkH (i:=10) HS5.out ?_) | (refine wpAnyH_take (i:=10) (v:=_) rfl (by kernel_rfl) (by kernel_rfl) (by kernel_rfl) (fun _ _ _ h=>h) (Or.inr ⟨by rfl,rfl⟩) HS5.out ?_)
   try simp only [Act.put,zz1,zz2,zz3,zz4,zz5,zz6]
   first | (refine tkH (i:=11) HS5.out ?_) | (refine wpAnyH_take (i:=11) (v:=_) rfl (by kernel_rfl) (by kernel_rfl) (by kernel_rfl) (fun _ _ _ h=>h) (Or.inr ⟨by rfl,rfl⟩) HS5.out ?_)
   try simp only [Act.put,zz1,zz2,zz3,zz4,zz5,zz6]
   first | (refine tkH (i:=12) HS5.out ?_) | (refine wpAnyH_take (i:=12) (v:=_) rfl (by kernel_rfl) (by kernel_rfl) (by kernel_rfl) (fun _ _ _ h=>h) (Or.inr ⟨by rfl,rfl⟩) HS5.out ?_)
   try simp only [Act.put,zz1,zz2,zz3,zz4,zz5,zz6]
   first | (refine tkH (i:=13) HS5.out ?_) | (refine wpAnyH_take (i:=13) (v:=_) rfl (by kernel_rfl) (by kernel_rfl) (by kernel_rfl) (fun _ _ _ h=>h) (Or.inr ⟨by rfl,rfl⟩) HS5.out ?_)
   try simp only [Act.put,zz1,zz2,zz3,zz4,zz5,zz6]
   refine tkH (i:=14) HS5.out ?_
   try simp only [Act.put,zz1,zz2,zz3,zz4,zz5,zz6]
   refine tkH (i:=15) HS5.out ?_
   try simp only [Act.put,zz1,zz2,zz3,zz4,zz5,zz6]
   refine wpAnyH_done (by kernel_rfl) ?_ _
   go_wp2
   go_ret
   exact ⟨ret_bool HR2.out.symm,HBL.out.trans (below_le HB5.out HBL.out.size)⟩
  ·have HR2:Hid (R = decide ((ml:Int)≤mx)):=hid (by rw [HR1.out];rfl)
   refine wp_region_held (S:=(fun w'=>w'.cell? ⟨w.heap.size + 1,0,none⟩ = some (.string s)∧w'.cell? ⟨w.heap.size,5,none⟩ = some (.int .i64 mx))) (by kernel_rfl) ?_
   change wpAnyH _ _ _ _ _ _ _ _ (World.drew _)
   refine tkH (i:=0) HS0.out ?_
   try simp only [Act.put,zz1,zz2,zz3,zz4,zz6]
   refine tkH (i:=1) HS0.out ?_
   try simp only [Act.put,zz1,zz2,zz3,zz4,zz5,zz6]
   refine tkH (i:=3) HS0.out ?_
   try simp only [Act.put,zz1,zz2,zz3,zz4,zz5,zz6]
   refine tkH (i:=4) HS0.out ?_
   try simp only [Act.put,zz1,zz2,zz3,zz4,zz5,zz6]
   refine wpAnyH_ready (rs:=[2]) (by kernel_rfl) (by simp) ?_
   refine AllReadyH.cons rfl (fun K hK=>?_) AllReadyH.nil
   go_simp
   go_at_call 55
   refine (HFL.out _).mono ?_
   rintro e w5 ⟨rfl,hb5⟩
   have HB5:Hid (Below w2.heap.size w2 w5):=hid ((Below.refl _ _).drew.trans hb5)
   have HS5:=hid (HSC.out _ HB5.out)
   clear hb5
   refine hK.out _ _ HS5.out (fun _=>?_)
   clear hK K
   try simp only [Act.put,zz1,zz2,zz3,zz4,zz5,zz6]
   refine tkH (i:=5) HS5.out ?_
   try simp only [Act.put,zz1,zz2,zz3,zz4,zz5,zz6]
   refine tkH (i:=6) HS5.out ?_
   try simp only [Act.put,zz1,zz2,zz3,zz4,zz5,zz6]
   refine tkH (i:=7) HS5.out ?_
   try simp only [Act.put,zz1,zz2,zz3,zz4,zz5,zz6]
   refine tkH (i:=8) HS5.out ?_
   try simp only [Act.put,zz1,zz2,zz3,zz4,zz5,zz6]
   refine tkH (i:=11) HS5.out ?_
   try simp only [Act.put,zz1,zz2,zz3,zz4,zz5,zz6]
   refine tkH (i:=12) HS5.out ?_
   try simp only [Act.put,zz1,zz2,zz3,zz4,zz5,zz6]
   refine wpAnyH_ready (rs:=[9]) (by kernel_rfl) (by simp) ?_
   refine AllReadyH.cons rfl (fun K hK=>?_) AllReadyH.nil
   go_simp
   go_at_call 56
   refine (HCT.out _).mono ?_
   rintro e w6 ⟨v6,rfl,ho6,hb6⟩
   obtain ⟨x6,c6,rfl⟩:=ownsRow_is ho6
   have HB6:Hid (Below w2.heap.size w2 w6):=hid (HB5.out.trans (below_le hb6 HB5.out.size))
   have HS6:=hid (HSC.out _ HB6.out)
   clear ho6 hb6
   refine hK.out _ _ HS6.out (fun _=>?_)
   clear hK K
   try simp only [Act.put,zz1,zz2,zz3,zz4,zz5,zz6]
   refine tkH (i:=10) HS6.out ?_
   try simp only [Act.put,zz1,zz2,zz3,zz4,zz5,zz6]
   refine tkH (i:=13) HS6.out ?_
   try simp only [Act.put,zz1,zz2,zz3,zz4,zz5,zz6]
   refine tkH (i:=14) HS6.out ?_
   try simp only [Act.put,zz1,zz2,zz3,zz4,zz5,zz6]
   refine tkH (i:=15) HS6.out ?_
   try simp only [Act.put,zz1,zz2,zz3,zz4,zz5,zz6]
   refine wpAnyH_done (by kernel_rfl) ?_ _
   go_wp2
   go_ret
   exact ⟨ret_bool HR2.out.symm,HBL.out.trans (below_le HB6.out HBL.out.size)⟩
 case inr.inr.inl=>
  have HR2:Hid (R = WB):=hid (by rw [HR.out];simp)
  clear HR HPL HFL HCT HTB HDA HRN HRY HWR HWO HIN HE
  go_wp2_with (first | (go_at_call 33;refine (HWI.out _).mono ?_;rintro e w3 ⟨rfl,rfl⟩))
  go_ret
  exact ⟨ret_bool HR2.out.symm,HBL.out⟩
 case inr.inr.inr.inl=>
  have HR1:Hid (R = (EB || DB)):=hid (by rw [HR.out];simp)
  have he:=HE.out
  clear HR HPL HFL HCT HTB HRN HRY HWR HWI HWO HIN HE
  cases EB
  ·have HR2:Hid (R = DB):=hid HR1.out
   go_wp2_with (first | (go_at_call 62;refine (HDA.out _).mono ?_;rintro e w3 ⟨rfl,hb3⟩))
   go_ret
   exact ⟨ret_bool HR2.out.symm,HTR.out _ hb3⟩
  ·have HR2:Hid (R = true):=hid HR1.out
   go_wp2
   go_ret
   exact ⟨ret_bool HR2.out.symm,HBL.out⟩
 case inr.inr.inr.inr.inl=>
  have HR2:Hid (R = true):=hid (by rw [HR.out];simp)
  clear HR HPL HFL HCT HTB HDA HRN HRY HWR HWI HWO HIN HE
  go_wp2
  go_ret
  exact ⟨ret_bool HR2.out.symm,HBL.out⟩
 case inr.inr.inr.inr.inr.inl=>
  have HR2:Hid (R = WO):=hid (by rw [HR.out];simp)
  clear HR HPL HFL HCT HTB HDA HRN HRY HWR HWI HIN HE
  go_wp2_with (first | (go_at_call 33;refine (HWO.out _).mono ?_;rintro e w3 ⟨rfl,rfl⟩))
  go_ret
  exact ⟨ret_bool HR2.out.symm,HBL.out⟩
 case inr.inr.inr.inr.inr.inr.inl=>
  have HRE:Hid (R = RB):=hid (by rw [HR.out];simp)
  clear HR HPL HFL HCT HTB HDA HWI HWO HE
  obtain ⟨N,hN⟩:∃ N,N = vl.length:=⟨_,rfl⟩
  rw [←hN] at HRN HRY HVB hll d3 ⊢
  have HNN:=hid hN
  have HIN2:Hid (vl≠[]→∃ g o,x = some ⟨g,o,none⟩∧g < w2.heap.size∧∀ i,i < N→w2.cell? ⟨g,o + i,none⟩ = some (.int .i64 (vl.getD i 0))):=hid (fun h=>by rw [hN];exact IntV.at_ HIN.out h)
  clear hN HIN
  go_wp2
  clear c0 c1 c2 c3 c4 c5 c6 c7 c8 c9 c10 c11 c12 c13 c14 c15 d0 d1 d2 d3 d4 hlt hlv
  go_loopw [5] (fun i wr=>∃ j:Nat,i = .int .i64 j∧j≤N∧Hid ((∀ i,i < j→risA vl (no:Nat) i = true)∧Below w2.heap.size w2 wr)) (fun i _=>N - (intOf i).toNat)
  case atStart=>exact ⟨0,rfl,Nat.zero_le _,hid ⟨fun i hi=>absurd hi (by omega),Below.refl _ _⟩⟩
  case round=>
   obtain ⟨j,rfl,hj,HJ⟩:=hrel
   have HFJ:=hid (HFB.out.below HJ.out.2)
   have HVJ:=hid (HVB.out.below HJ.out.2)
   obtain ⟨d0,d1,d2,d3,d4⟩:=HVJ.out.cells
   have hlv:=HVJ.out.lt
   obtain ⟨_,_,_,c3,_⟩:=HFJ.out.cells
   simp only at c3
   have hlt:=HFJ.out.lt
   have HDW:Hid (∀ nq,Below w2.heap.size w2 (wr.drewN nq)):=hid (fun nq=>below_drewN HJ.out.2 nq)
   by_cases hjn:j < N
   ·obtain ⟨g,o,rfl,HG⟩:∃ g o,x = some ⟨g,o,none⟩∧Hid (∀ i,i < N→wr.cell? ⟨g,o + i,none⟩ = some (.int .i64 (vl.getD i 0))):=by
     obtain ⟨g,o,h1,h2,h3⟩:=HIN2.out (fun e=>by have:=HNN.out;rw [e] at this;simp at this;omega)
     exact ⟨g,o,h1,hid (fun i hi=>(HJ.out.2.cell (p:=⟨g,o + i,none⟩) h2).trans (h3 i hi))⟩
    have ck:=HG.out j hjn
    obtain ⟨u,hu⟩:∃ u,u = vl.getD j 0:=⟨_,rfl⟩
    have HRI:Hid (risA vl (no:Nat) j = (decide (0≤u∧u < ((no:Nat):Int)) && (decide (j = 0) || decide (vl.getD (j - 1) 0 < u)))):=hid (by unfold risA;rw [←hu])
    rw [←hu] at ck
    have HW1:=hid (fun W=>HWR.out u W)
    have i1:(0:Int)≤(j:Int):=by omega
    have i2:(j:Int) < (N:Int):=by omega
    have HBK:=hid (HRN.out j hjn)
    have HAK:=hid HJ.out.1
    clear hu
    by_cases h1:0≤u∧u < (no:Int)
    case neg=>
     rw [decide_eq_false (by omega)] at HW1
     have HR2:Hid (R = false):=hid (by rw [HRE.out];exact HBK.out (by rw [HRI.out,decide_eq_false h1];rfl))
     clear h1 HBK HRI HAK HRE HRN HRY HWR HJ HIN2
     go_wp2
     go_quiet ((go_at_call 33;exact quiet_eq (HW1.out _)))
     go_wp2
     go_ret
     exact ⟨ret_bool HR2.out.symm,HTR.out _ (HDW.out _)⟩
    rw [decide_eq_true (by omega)] at HW1
    rw [decide_eq_true h1] at HRI
    by_cases h0:j = 0
    ·subst h0
     rw [Nat.add_zero] at ck
     have HNX:Hid (∀ i,i < 0 + 1→risA vl (no:Nat) i = true):=hid (fun i hi=>by obtain rfl:i = 0:=(by omega);rw [HRI.out];rfl)
     clear h1 HBK HRI HAK HJ
     go_wp2
     go_quiet ((go_at_call 33;exact quiet_eq (HW1.out _)))
     go_wp2
     go_roundw
     case rel=>exact ⟨1,by go_num,by omega,hid ⟨HNX.out,HDW.out _⟩⟩
     case measure=>simp [intOf];omega
    obtain ⟨m,rfl⟩:∃ m,j = m + 1:=⟨j - 1,by omega⟩
    have t0:decide (0 < ((m + 1:Nat):Int)) = true:=by simp
    have t01:decide (0 < (m:Int) + 1) = true:=by simp
    have cp:=HG.out m (by omega)
    obtain ⟨b,hb⟩:∃ b,b = vl.getD m 0:=⟨_,rfl⟩
    rw [Nat.add_sub_cancel,←hb] at HRI
    rw [←hb] at cp
    have i3:(0:Int)≤(m:Int):=by omega
    have i4:(m:Int) < (N:Int):=by omega
    have i5:((m + 1:Nat):Int) - 1 = (m:Int):=by omega
    have i6:(m:Int) + 1 - 1 = (m:Int):=by omega
    rw [decide_eq_false h0] at HRI
    clear hb h1
    by_cases h5:u≤b
    ·have t5:decide (u≤b) = true:=by simp [h5]
     have HR2:Hid (R = false):=hid (by rw [HRE.out];exact HBK.out (by rw [HRI.out,show decide (b < u) = false from by rw [decide_eq_false_iff_not];omega];rfl))
     clear h5 HBK HRI HAK HRE HRN HRY HWR HJ HIN2
     go_wp2
     go_quiet ((go_at_call 33;exact quiet_eq (HW1.out _)))
     go_wp2
     go_ret
     exact ⟨ret_bool HR2.out.symm,HTR.out _ (HDW.out _)⟩
    ·have t5:decide (u≤b) = false:=by simp [h5]
     have HNX:Hid (∀ i,i < m + 1 + 1→risA vl (no:Nat) i = true):=hid (fun i hi=>by
      rcases Nat.lt_or_ge i (m + 1) with z | z
      ·exact HAK.out i z
      ·obtain rfl:i = m + 1:=by omega
       rw [HRI.out,show decide (b < u) = true from by rw [decide_eq_true_iff];omega];rfl)
     clear h5 HBK HRI HAK HJ
     go_wp2
     go_quiet ((go_at_call 33;exact quiet_eq (HW1.out _)))
     go_wp2
     go_roundw
     case rel=>exact ⟨m + 1 + 1,by go_num,by omega,hid ⟨HNX.out,HDW.out _⟩⟩
     case measure=>simp [intOf];omega
   ·obtain rfl:j = N:=by omega
    have HR2:Hid (R = true):=hid (by rw [HRE.out];exact HRY.out (fun i hi=>HJ.out.1 i hi))
    have HB5:=hid HJ.out.2
    clear HJ HRE HRN HRY HWR HIN2 HDW
    go_wp2
    go_ret
    exact ⟨ret_bool HR2.out.symm,HTR.out _ HB5.out⟩
 case inr.inr.inr.inr.inr.inr.inr.inl=>
  have HR2:Hid (R = WO):=hid (by rw [HR.out];simp)
  clear HR HPL HFL HCT HTB HDA HRN HRY HWR HWI HIN HE
  go_wp2_with (first | (go_at_call 33;refine (HWO.out _).mono ?_;rintro e w3 ⟨rfl,rfl⟩))
  go_ret
  exact ⟨ret_bool HR2.out.symm,HBL.out⟩
 case inr.inr.inr.inr.inr.inr.inr.inr.inl=>
  have HR2:Hid (R = p2):=hid (by rw [HR.out];simp)
  clear HR HFL HCT HTB HDA HRN HRY HWR HWI HWO HIN HE
  go_wp2_with (first | (go_at_call 23;refine (HPL.out _).mono ?_;rintro e w3 ⟨rfl,hb3⟩))
  go_ret
  exact ⟨ret_bool HR2.out.symm,HTR.out _ hb3⟩
 case inr.inr.inr.inr.inr.inr.inr.inr.inr=>
  have HR2:Hid (R = false):=hid (by obtain ⟨h1,h2,h3,h4,h5,h6,h7,h8,h9⟩:=hk;rw [HR.out];simp [h1,h2,h3,h4,h5,h6,h7,h8,h9])
  obtain ⟨b1,b2,b3,b4,b5,b6,b7,b8,b9⟩:=no_kind hk
  clear hk
  clear HR HPL HFL HCT HTB HDA HRN HRY HWR HWI HWO HIN HE
  go_wp2
  go_ret
  exact ⟨ret_bool HR2.out.symm,HBL.out⟩
theorem fits_kind {f:Fld} {v:Vle} (h:tyK f.k = 0):fitsP f v = false:=by
 have hk:=tyK_cases f.k
 unfold fitsP
 rcases hk with ⟨_,e⟩ | ⟨_,e⟩ | ⟨_,e⟩ | ⟨_,e⟩ | ⟨_,e⟩ | ⟨_,e⟩ | ⟨_,e⟩ | ⟨_,e⟩ | ⟨_,e⟩ | ⟨⟨h1,h2,h3,h4,h5,h6,h7,h8,h9⟩,e⟩
 case inr.inr.inr.inr.inr.inr.inr.inr.inr=>simp [h1,h2,h3,h4,h5,h6,h7,h8,h9]
 all_goals omega
theorem rValue (f:Fld) (hf:FOk f) (xo:Option Addr) (co:Nat) (xl:Option Addr) (cl:Nat) (v:Vle) (hv:VOk v) (x:Option Addr) (c:Nat) (w:World) (hm:TxV w (.slice xo f.op.length co) f.op) (hi:IntV w (.slice x v.l.length c) v.l) :
  Calls Tryz.prog 15 #[(f.fl xo co xl cl).v,v.v x c] w fun e w'=>e = .returned (.bool (valueP f v))∧Below w.heap.size w w':=by
 have HOW:=hid (fun W (h:TxV W (.slice xo f.op.length co) f.op)=>rOwn f xo co xl cl hf.op hf.ops W h)
 have HFT:=hid (fun W (h:IntV W (.slice x v.l.length c) v.l)=>rvalue21 f xo co xl cl v x c hv.f hv.s hv.l (by have:=hf.op;omega) W h)
 obtain ⟨R,hR⟩:∃ R,R = valueP f v:=⟨_,rfl⟩
 rw [←hR]
 unfold valueP at hR
 obtain ⟨F,hF⟩:∃ F,F = f.fl xo co xl cl:=⟨_,rfl⟩
 have HTY:Hid (∀ W,Calls Tryz.prog 19 #[.int .i64 F.k] W fun e w'=>e = .returned (.int .i64 (tyK f.k:Nat))∧W = w'):=hid (by rw [hF];exact fun W=>rTypeOfK f.k W)
 have HFK:Hid (tyK f.k = 0→fitsP f v = false):=hid fits_kind
 rw [←hF] at HOW HFT ⊢
 generalize ownP f = OB at hR HOW
 generalize fitsP f v = FB at hR HFT HFK
 generalize tyK f.k = T at HTY HFK
 have HM:=hid (fun W (hb:Below w.heap.size w W)=>hm.below hb)
 have HI:=hid (fun W (hb:Below w.heap.size w W)=>hi.below hb)
 have HR:=hid hR
 clear hF hR hm hi hf hv
 unfold FL.v FL.a at HOW HFT ⊢
 unfold Vle.v dvlV at HFT ⊢
 generalize tx v.s = s at HFT ⊢
 generalize v.n = n at HFT ⊢
 generalize v.b = b at HFT ⊢
 generalize v.f = vf at HFT ⊢
 obtain ⟨B1,hB1⟩:∃ W1,W1 = (w.alloc (.cells F.a 42)).alloc (.cells #[.string s,.int .i64 n,.bool b,.slice x v.l.length c,.float .f64 vf] 40):=⟨_,rfl⟩
 have hbl:Below w.heap.size w B1:=by rw [hB1];exact ((Below.refl _ _).alloc (Nat.le_refl _) _).alloc (by simp) _
 have HFB:Hid (FLB B1 w.heap.size F):=hid (by rw [hB1];exact (heap_alloc_old _ _ (by simp)).trans (heap_alloc_new _ _))
 have HVB:Hid (VLB B1 (w.heap.size + 1) s n b x v.l.length c vf):=hid (by rw [hB1];exact heap_at (heap_alloc_new _ _) (by simp))
 unfold FL.a at hB1
 have HBL:=hid hbl
 clear hbl
 obtain ⟨c0,c1,c2,c3,c4,c5,c6,c7,c8,c9,c10,c11,c12,c13,c14,c15⟩:=HFB.out.cells
 obtain ⟨d0,d1,d2,d3,d4⟩:=HVB.out.cells
 have hlt:=HFB.out.lt
 have hlv:=HVB.out.lt
 go_enter Tryz.func15,Tryz.ntmps15
 go_wp2_with (first | (go_at_call 19;fail))
 rw [←hB1]
 go_at_call 19
 refine (HTY.out _).mono ?_
 clear hB1
 rintro e w1 ⟨rfl,rfl⟩
 by_cases ht:T = 0
 ·have HR2:Hid (R = false):=hid (by rw [HR.out,HFK.out ht,Bool.and_false])
  subst ht
  clear HR HOW HFT HM HI HFK
  go_wp2
  go_ret
  exact ⟨ret_bool HR2.out.symm,HBL.out⟩
 have t1:((T:Int) != 0) = true:=by simpa using (show ¬ ((T:Int) = 0) by omega)
 clear ht HFK HTY
 go_wp2_with (first | (go_at_call 38;fail))
 go_at_call 38
 refine (HOW.out _ (HM.out _ HBL.out)).mono ?_
 rintro e w2 ⟨rfl,hb2⟩
 replace HFB:=hid (HFB.out.below hb2)
 replace HVB:=hid (HVB.out.below hb2)
 replace HBL:=hid (HBL.out.trans (below_le hb2 HBL.out.size))
 clear hb2 HOW HM c0 c1 c2 c3 c4 c5 c6 c7 c8 c9 c10 c11 c12 c13 c14 c15 d0 d1 d2 d3 d4 hlt hlv
 cases OB
 ·have HR2:Hid (R = false):=hid (by rw [HR.out];rfl)
  clear HR HFT HI
  go_wp2
  go_ret
  exact ⟨ret_bool HR2.out.symm,HBL.out⟩
 ·have HR2:Hid (R = FB):=hid (by rw [HR.out];rfl)
  have HF2:=hid (HFT.out w2 (HI.out _ HBL.out))
  obtain ⟨c0,c1,c2,c3,c4,c5,c6,c7,c8,c9,c10,c11,c12,c13,c14,c15⟩:=HFB.out.cells
  obtain ⟨d0,d1,d2,d3,d4⟩:=HVB.out.cells
  have hlt:=HFB.out.lt
  have hlv:=HVB.out.lt
  clear HR HFT HI
  go_wp2_with (first | (go_at_call 39;refine (HF2.out).mono ?_;rintro e w3 ⟨rfl,hb3⟩))
  go_ret
  exact ⟨ret_bool HR2.out.symm,HBL.out.trans (below_le hb3 HBL.out.size)⟩
theorem rField (f:Fld) (hf:FOk f) (xo:Option Addr) (co:Nat) (xl:Option Addr) (cl:Nat) (w:World) (hm:FM w f xo co xl cl) :
  Calls Tryz.prog 13 #[(f.fl xo co xl cl).v] w fun e w'=>e = .returned (.int .i64 (fieldP f:Nat))∧Below w.heap.size w w':=by
 obtain ⟨R,hR⟩:∃ R,R = fieldP f:=⟨_,rfl⟩
 rw [←hR]
 unfold fieldP valueP at hR
 obtain ⟨F,hF⟩:∃ F,F = f.fl xo co xl cl:=⟨_,rfl⟩
 have HTY:Hid (∀ W,Calls Tryz.prog 19 #[.int .i64 F.k] W fun e w'=>e = .returned (.int .i64 (tyK f.k:Nat))∧W = w'):=hid (by rw [hF];exact fun W=>rTypeOfK f.k W)
 have HNM:Hid (∀ W,Calls Tryz.prog 17 #[.string F.nm] W fun e w'=>e = .returned (.bool (nameP f.nm))∧W = w'):=hid (by rw [hF];exact fun W=>rName f.nm W)
 have HLB:Hid (∀ W,Calls Tryz.prog 34 #[.string F.lb] W fun e w'=>e = .returned (.bool (labelP f.lb))∧Below W.heap.size W w'):=hid (by rw [hF];exact fun W=>rLabel f.lb hf.lb W)
 have HOW:Hid (∀ W,FM W f xo co xl cl→Calls Tryz.prog 38 #[.agg #[.int .i64 F.k,.string F.nm,.string F.lb,.slice F.xo F.no F.co,.int .i64 F.mn,.int .i64 F.mx,.float .f64 F.lo,.float .f64 F.hi,.float .f64 F.st,.string F.ds,.int .i64 F.dn,.bool F.db,.slice F.xl F.nl F.cl,.float .f64 F.df,.string F.sh,.string F.ck]] W fun e w'=>e = .returned (.bool (ownP f))∧Below W.heap.size W w'):=hid (by rw [hF];exact fun W h=>rOwn f xo co xl cl hf.op hf.ops W h.op)
 have HVL:Hid (∀ W,FM W f xo co xl cl→Calls Tryz.prog 39 #[.agg #[.int .i64 F.k,.string F.nm,.string F.lb,.slice F.xo F.no F.co,.int .i64 F.mn,.int .i64 F.mx,.float .f64 F.lo,.float .f64 F.hi,.float .f64 F.st,.string F.ds,.int .i64 F.dn,.bool F.db,.slice F.xl F.nl F.cl,.float .f64 F.df,.string F.sh,.string F.ck],.agg #[.string F.ds,.int .i64 F.dn,.bool F.db,.slice F.xl F.nl F.cl,.float .f64 F.df]] W fun e w'=>e = .returned (.bool (fitsP f f.d))∧Below W.heap.size W w'):=hid (by rw [hF];exact fun W h=>rvalue21 f xo co xl cl f.d xl cl hf.d.f hf.d.s hf.d.l (by have:=hf.op;omega) W h.l)
 rw [←hF]
 generalize tyK f.k = T at hR HTY
 generalize nameP f.nm = NB at hR HNM
 generalize labelP f.lb = LB at hR HLB
 generalize ownP f = OB at hR HOW
 generalize fitsP f f.d = VB at hR HVL
 have HM:=hid (fun W (hb:Below w.heap.size w W)=>hm.below hb)
 have HR:=hid hR
 clear hF hR hm hf
 unfold FL.v
 obtain ⟨B1,hB1⟩:∃ W1,W1 = w.alloc (.cells F.a 42):=⟨_,rfl⟩
 have hbl:Below w.heap.size w B1:=by rw [hB1];exact (Below.refl _ _).alloc (Nat.le_refl _) _
 have HFB:Hid (FLB B1 w.heap.size F):=hid (by rw [hB1];exact heap_alloc_new _ _)
 unfold FL.a at hB1 ⊢
 have HBL:=hid hbl
 clear hbl
 obtain ⟨c0,c1,c2,c3,c4,c5,c6,c7,c8,c9,c10,c11,c12,c13,c14,c15⟩:=HFB.out.cells
 have hlt:=HFB.out.lt
 go_enter Tryz.func13,Tryz.ntmps13
 go_wp2_with (first | (go_at_call 19;fail))
 rw [←hB1]
 go_at_call 19
 refine (HTY.out _).mono ?_
 clear hB1
 rintro e w2 ⟨rfl,rfl⟩
 by_cases ht:T = 0
 ·have HR2:Hid (R = 1):=hid (by rw [HR.out,if_pos ht])
  subst ht
  clear HR HNM HLB HVL HOW HM
  go_wp2
  go_ret
  exact ⟨by rw [HR2.out];rfl,HBL.out⟩
 have ht2:((T:Int) == 0) = false:=by simpa using (show ¬ ((T:Int) = 0) by omega)
 have HR1:Hid (R = if NB && (LB && (OB && VB)) then 0 else 210):=hid (by rw [HR.out,if_neg ht])
 clear HR ht HTY
 cases NB
 ·have HR2:Hid (R = 210):=hid (by rw [HR1.out];rfl)
  clear HR1 HLB HVL HOW HM
  go_wp2_with (first | (go_at_call 17;refine (HNM.out _).mono ?_;rintro e w3 ⟨rfl,rfl⟩))
  go_ret
  exact ⟨by rw [HR2.out];rfl,HBL.out⟩
 go_wp2_with (first | (go_at_call 17;refine (HNM.out _).mono ?_;rintro e w3 ⟨rfl,rfl⟩) | (go_at_call 34;fail))
 go_at_call 34
 refine (HLB.out _).mono ?_
 rintro e w4 ⟨rfl,hb4⟩
 replace HFB:=hid (HFB.out.below hb4)
 replace HBL:=hid (HBL.out.trans (below_le hb4 HBL.out.size))
 clear hb4 HNM HLB c0 c1 c2 c3 c4 c5 c6 c7 c8 c9 c10 c11 c12 c13 c14 c15 hlt
 cases LB
 ·have HR2:Hid (R = 210):=hid (by rw [HR1.out];rfl)
  clear HR1 HVL HOW HM
  go_wp2
  go_ret
  exact ⟨by rw [HR2.out];rfl,HBL.out⟩
 obtain ⟨c0,c1,c2,c3,c4,c5,c6,c7,c8,c9,c10,c11,c12,c13,c14,c15⟩:=HFB.out.cells
 have hlt:=HFB.out.lt
 have HO2:=hid (HOW.out _ (HM.out _ HBL.out))
 go_wp2_with (first | (go_at_call 38;fail))
 go_at_call 38
 refine HO2.out.mono ?_
 rintro e w5 ⟨rfl,hb5⟩
 replace HFB:=hid (HFB.out.below hb5)
 replace HBL:=hid (HBL.out.trans (below_le hb5 HBL.out.size))
 clear hb5 HOW HO2 c0 c1 c2 c3 c4 c5 c6 c7 c8 c9 c10 c11 c12 c13 c14 c15 hlt
 cases OB
 ·have HR2:Hid (R = 210):=hid (by rw [HR1.out];rfl)
  clear HR1 HVL HM
  go_wp2
  go_ret
  exact ⟨by rw [HR2.out];rfl,HBL.out⟩
 obtain ⟨c0,c1,c2,c3,c4,c5,c6,c7,c8,c9,c10,c11,c12,c13,c14,c15⟩:=HFB.out.cells
 have hlt:=HFB.out.lt
 have HV2:=hid (HVL.out _ (HM.out _ HBL.out))
 clear HVL HM
 cases VB
 ·have HR2:Hid (R = 210):=hid (by rw [HR1.out];rfl)
  clear HR1
  go_wp2_with (first | (go_at_call 39;refine (HV2.out).mono ?_;rintro e w6 ⟨rfl,hb6⟩))
  go_ret
  exact ⟨by rw [HR2.out];rfl,HBL.out.trans (below_le hb6 HBL.out.size)⟩
 ·have HR2:Hid (R = 0):=hid (by rw [HR1.out];rfl)
  clear HR1
  go_wp2_with (first | (go_at_call 39;refine (HV2.out).mono ?_;rintro e w6 ⟨rfl,hb6⟩))
  go_ret
  exact ⟨by rw [HR2.out];rfl,HBL.out.trans (below_le hb6 HBL.out.size)⟩
end Go.Proofs.YtpcbamcelpcigaaGreat
namespace Go.Proofs.YtpcbamcelpcigaaGreat
open Go Go.RowKit Go.Shelf
def FLC (w:World) (b q:Nat) (F:FL):Prop:=∀ j u,F.a[j]? = some u→w.cell? ⟨b,q + j,none⟩ = some u
theorem FLB.flc {w:World} {b:Nat} {F:FL} (h:FLB w b F):FLC w b 0 F:=fun j u hu=>by
 unfold FLB at h
 simp only [World.cell?,h,Nat.zero_add]
 exact hu
theorem FLC.below {w W:World} {b q:Nat} {F:FL} (h:FLC w b q F) (hb:Below w.heap.size w W):FLC W b q F:=fun j u hu=>by
 have h1:=h j u hu
 exact (hb.cell (p:=⟨b,q + j,none⟩) (World.block_lt_of_cell? w _ h1)).trans h1
theorem run_ldF {w:World} {b q:Nat} {F:FL} (h:FLC w b q F):(loadVar 42 ⟨b,q,none⟩).run Tryz.prog w = .ok F.v w:=by
 have hl:(loadCells ⟨b,q,none⟩ F.a.toList.length).run Tryz.prog w = .ok F.a.toList.toArray w:=
  run_loadCells_list (P:=Tryz.prog) w ⟨b,q,none⟩ F.a.toList (fun j v hv=>by
   have hadd:(⟨b,q,none⟩:Addr).add j = ⟨b,q + j,none⟩:=by unfold Addr.add;split <;> simp_all
   rw [hadd]
   exact h j v (by rw [←hv,Array.getElem?_toList]))
 rw [show F.a.toList.length = 16 from rfl,Array.toArray_toList] at hl
 simp [loadVar,hl]
 rfl
section
variable {ops:Array Oper} {rest:List Oper} {o:Oper} {a:Act} {w:World} {Q:Exit→Act→World→Prop}
theorem wp_ldF {K:Act→World→Prop} {b q:Nat} {F:FL} {x:Operand} (ho:o.op = .load 42 x) (hx:a.eval x = .pointer (some ⟨b,q,none⟩)) (h:FLC w b q F) (hK:K (a.put o.dst F.v) w):o.wp Tryz.prog a w K Q:=by
 unfold Oper.wp execOp
 simp only [ho,hx,Instr.loadAt,Instr.sureAddr,Sem.run_bind,Sem.run_pure,Result.andThen_ok,run_ldF h]
 exact hK
theorem wpList_ldF {b q:Nat} {F:FL} {x:Operand} (hgd:o.guard = none) (ho:o.op = .load 42 x) (hx:a.eval x = .pointer (some ⟨b,q,none⟩)) (h:FLC w b q F) (hK:wpList Tryz.prog ops Q rest (a.put o.dst F.v) w):wpList Tryz.prog ops Q (o :: rest) a w:=
 wpList_plain hgd fun _ hK'=>wp_ldF ho hx h (hK' _ _ hK)
end
theorem yieldsF {ops:Array Oper} {S:World→Prop} {o:Oper} {a:Act} {b q:Nat} {F:FL} {x:Operand} (hgd:o.guard = none) (ho:o.op = .load 42 x) (hx:a.eval x = .pointer (some ⟨b,q,none⟩)) (hS:∀ w,S w→FLC w b q F):YieldsIf Tryz.prog ops S o F.v a:=
 .inl ⟨by simp [Region.wanted,hgd],fun w hw=>by
  unfold execOp
  simp only [ho,hx,Instr.loadAt,Instr.sureAddr,Sem.run_bind,Sem.run_pure,Result.andThen_ok,run_ldF (hS w hw)]⟩
theorem FL.one (F:FL):F.a.all (·.oneCell') = true:=by simp [FL.a,Value.oneCell']
theorem infoF:(Tryz.prog.info? 42).map (·.size) = some 16:=by kernel_rfl
theorem FLB.row {w:World} {b:Nat} {G:FL} (h:FLB w b G) (F:FL):FLB (w.setRow b F.a) b F:=setRow_heap w b _ _ _ _ h
theorem wpList_stF {ops:Array Oper} {rest:List Oper} {o:Oper} {a:Act} {w:World} {Q:Exit→Act→World→Prop} {b:Nat} {F G:FL} {x y:Operand} (hgd:o.guard = none) (ho:o.op = .store 42 x y) (hx:a.eval x = .pointer (some ⟨b,0,none⟩)) (hy:a.eval y = F.v) (h:FLB w b G)
  (hK:wpList Tryz.prog ops Q rest (a.put o.dst undef) (w.setRow b F.a)):wpList Tryz.prog ops Q (o :: rest) a w:=
 wpList_store_row hgd 42 x y ho b F.a hx hy 42 G.a h infoF rfl F.one hK
end Go.Proofs.YtpcbamcelpcigaaGreat
