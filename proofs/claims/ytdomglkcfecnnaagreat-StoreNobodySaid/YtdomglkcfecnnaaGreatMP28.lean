/- Own texts, merged: D8. -/
import Derived.Test.YtdomglkcfecnnaaGreatMP26
import Derived.Test.YtdomglkcfecnnaaGreatMP27
/- Walk: desc: own. -/
namespace Go.Proofs.YtdomglkcfecnnaaGreat
open Go.RowKit Go.Shelf
set_option maxRecDepth 100000 in
set_option maxHeartbeats 16000000 in
theorem dOwn_9 (f : Fld) (xo : Option Addr) (co : Nat) (xl : Option Addr) (cl : Nat) (hL : f.op.length ≤ 1000) (hs : ∀ i, i < f.op.length → (f.op.getD i []).length ≤ 900000) (hcl : f.k = 9) (w : World) (hv : TxV w (.slice xo f.op.length co) f.op) :
    Calls Tryz.prog 44 #[(f.fl xo co xl cl).v] w fun e w' => e = .returned (.bool (ownP f)) ∧ Below w.heap.size w w' := by
  have HSL := Lib.hid (fun W => dSlides (f.fl xo co xl cl) W)
  rw [sld_fl] at HSL
  obtain ⟨R, hR⟩ : ∃ R, R = ownP f := ⟨_, rfl⟩
  rw [← hR]
  unfold ownP at hR
  generalize sldN f = SN at HSL hR
  obtain ⟨k, nm0, lb0, op, mn, mx, lo, hi, st, ⟨ds0, dn, db, dl, df⟩, sh0, ck0⟩ := f
  unfold Fld.fl at HSL ⊢
  unfold FL.v FL.a at HSL ⊢
  simp only at HSL hR hL hs hv hcl ⊢
  generalize tx nm0 = nm at HSL ⊢
  generalize tx lb0 = lb at HSL ⊢
  generalize tx ds0 = ds at HSL ⊢
  generalize tx sh0 = sh at HSL ⊢
  generalize tx ck0 = ck at HSL ⊢
  generalize dl.length = nl at HSL ⊢
  have HOP := Lib.hid (fun W (h : TxV W (.slice xo op.length co) op) => doptions op hL hs xo co W h)
  have HLI := Lib.hid (fun W => dlisted k W)
  have HWI := Lib.hid (fun a b c W => dwithin a b c W)
  have HZ1 := Lib.hid (zf_test lo)
  have HZ2 := Lib.hid (zf_test hi)
  have HZ3 := Lib.hid (zf_test st)
  have HO1 : Hid (decide (op = []) = decide (op.length = 0)) := Lib.hid (by rw [decide_eq_decide, List.length_eq_zero_iff])
  obtain ⟨no, hno⟩ : ∃ no, no = op.length := ⟨_, rfl⟩
  rw [← hno] at hv HSL HOP HO1 hL hR ⊢
  generalize optsP op = OB at HOP hR
  generalize zF lo = z1 at HZ1 hR hcl
  generalize zF hi = z2 at HZ2 hR hcl
  generalize zF st = z3 at HZ3 hR hcl
  have HCL := Lib.hid hcl
  clear hcl
  obtain ⟨B1, hB1⟩ : ∃ W1, W1 = w.alloc (.cells #[.int .i64 k, .string nm, .string lb, .slice xo no co, .int .i64 mn, .int .i64 mx, .float .f64 lo, .float .f64 hi, .float .f64 st, .string ds, .int .i64 dn, .bool db, .slice xl nl cl, .float .f64 df, .string sh, .string ck] 66) := ⟨_, rfl⟩
  have hbl : Below w.heap.size w B1 := by rw [hB1]; exact (Below.refl _ _).alloc (Nat.le_refl _) _
  have HFB : Hid (FLB B1 w.heap.size ⟨k, nm, lb, xo, no, co, mn, mx, lo, hi, st, ds, dn, db, xl, nl, cl, df, sh, ck⟩) := Lib.hid (by rw [hB1]; exact heap_alloc_new _ _)
  have HOP1 := Lib.hid (HOP.out B1 (hv.below hbl))
  have HBL := Lib.hid hbl
  obtain ⟨lk, hlk⟩ : ∃ lk, lk = listK k := ⟨_, rfl⟩
  rw [← hlk] at HLI hR
  clear hv hbl hs HOP hno
  obtain ⟨c0, c1, c2, c3, c4, c5, c6, c7, c8, c9, c10, c11, c12, c13, c14, c15⟩ := HFB.out.cells
  simp only at c0 c1 c2 c3 c4 c5 c6 c7 c8 c9 c10 c11 c12 c13 c14 c15
  have hlt := HFB.out.lt
  go_enter Tryz.func44, Tryz.ntmps44
  go_wp2_with (first | (go_at_call 58; fail))
  rw [← hB1]
  refine (HLI.out _).mono ?_
  rintro e w1 ⟨rfl, rfl⟩
  clear HLI hB1
  have HWI1 := Lib.hid (fun W => HWI.out mx mn 4096 W)
  have HWI2 := Lib.hid (fun W => HWI.out mn (-999999999999999) 999999999999999 W)
  have HWI3 := Lib.hid (fun W => HWI.out mx (-999999999999999) 999999999999999 W)
  have HWI4 := Lib.hid (fun W => HWI.out mx mn (no : Nat) W)
  clear HWI
  obtain ⟨S, hS⟩ : ∃ S : Bool, S = (if k = 1 ∨ k = 2 then decide (0 ≤ mn ∧ mn ≤ mx ∧ mx ≤ 4096)
      else if k = 3 then decide (mn ≤ mx ∧ -999999999999999 ≤ mn ∧ mn ≤ 999999999999999 ∧ -999999999999999 ≤ mx ∧ mx ≤ 999999999999999)
      else if k = 7 then decide (0 ≤ mn ∧ mn ≤ mx ∧ mx ≤ (no : Int))
      else (decide (k ≠ 9) || decide (SN ≠ 0)) && decide (mn = 0 ∧ mx = 0)) := ⟨_, rfl⟩
  rw [← hS] at hR
  have HSS := Lib.hid hS
  have HLK := Lib.hid hlk
  clear hS hlk hL
  cases lk
  · rw [if_neg (by simp), HO1.out] at hR
    by_cases hn : no = 0
    · subst hn
      have HP : Hid (R = ((decide (k = 9) || (z1 && (z2 && z3))) && S)) := Lib.hid (by rw [hR]; simp)
      clear hR HO1 HOP1 OB
      go_upto_region 6 with (fail)
      have hcl := HCL.out
      clear HCL
      have h9 := hcl
      subst h9
      have HR1 : Hid (R = S) := Lib.hid (by rw [HP.out]; simp)
      have HS9 : Hid (S = (decide (SN ≠ 0) && decide (mn = 0 ∧ mx = 0))) := Lib.hid (by rw [HSS.out]; simp)
      clear HP HSS HLK HWI1 HWI2 HWI3 HWI4 HZ1 HZ2 HZ3
      go_wp2_with (first | (go_at_call 60; fail))
      go_at_call 60
      refine (HSL.out _).mono ?_
      rintro e w3 ⟨rfl, hb3⟩
      have HFB3 := Lib.hid (HFB.out.below hb3)
      have HBL3 := Lib.hid (HBL.out.trans (below_le hb3 HBL.out.size))
      clear hb3 HSL HFB HBL c0 c1 c2 c3 c4 c5 c6 c7 c8 c9 c10 c11 c12 c13 c14 c15 hlt
      obtain ⟨_, _, _, _, c4, c5, _⟩ := HFB3.out.cells
      simp only at c4 c5
      have hlt := HFB3.out.lt
      by_cases hs : SN = 0
      · have HR : Hid (R = false) := Lib.hid (by rw [HR1.out, HS9.out]; simp [hs])
        subst hs
        clear HR1 HS9
        go_wp2
        go_ret
        exact ⟨ret_bool HR.out.symm, HBL3.out⟩
      · have hs2 : ((SN : Int) == 0) = false := by simp; omega
        by_cases hm : mn = 0
        · have HR : Hid (R = (mx == 0)) := Lib.hid (by rw [HR1.out, HS9.out]; simp [hs, hm]; rfl)
          subst hm
          clear HR1 HS9 hs
          go_wp2
          go_ret
          exact ⟨ret_bool HR.out.symm, HBL3.out⟩
        · have HR : Hid (R = false) := Lib.hid (by rw [HR1.out, HS9.out]; simp [hm])
          have hm2 : (mn == 0) = false := by simpa using hm
          clear HR1 HS9 hs hm
          go_wp2
          go_ret
          exact ⟨ret_bool HR.out.symm, HBL3.out⟩
    · have HR : Hid (R = false) := Lib.hid (by rw [hR, decide_eq_false hn]; rfl)
      have ht : decide (0 < no) = true := by simp; omega
      clear hR HO1 HOP1 hn
      go_wp2
      go_ret
      exact ⟨ret_bool HR.out.symm, HBL.out⟩
  · rw [if_pos rfl] at hR
    cases OB
    · have HR : Hid (R = false) := Lib.hid hR
      clear hR HO1
      go_wp2_with (first | (go_at_call 59; refine HOP1.out.mono ?_; rintro e w2 ⟨rfl, hb2⟩))
      go_ret
      exact ⟨ret_bool HR.out.symm, HBL.out.trans (below_le hb2 HBL.out.size)⟩
    · have HP : Hid (R = ((decide (k = 9) || (z1 && (z2 && z3))) && S)) := Lib.hid (by rw [hR]; simp)
      clear hR HO1
      go_wp2_with (first | (go_at_call 59; fail))
      go_at_call 59
      refine HOP1.out.mono ?_
      rintro e w2 ⟨rfl, hb2⟩
      replace HFB := Lib.hid (HFB.out.below hb2)
      replace HBL := Lib.hid (HBL.out.trans (below_le hb2 HBL.out.size))
      clear hb2 HOP1 c0 c1 c2 c3 c4 c5 c6 c7 c8 c9 c10 c11 c12 c13 c14 c15 hlt
      obtain ⟨c0, c1, c2, c3, c4, c5, c6, c7, c8, c9, c10, c11, c12, c13, c14, c15⟩ := HFB.out.cells
      simp only at c0 c1 c2 c3 c4 c5 c6 c7 c8 c9 c10 c11 c12 c13 c14 c15
      have hlt := HFB.out.lt
      go_upto_region 6 with (fail)
      have hcl := HCL.out
      clear HCL
      have h9 := hcl
      subst h9
      have HR1 : Hid (R = S) := Lib.hid (by rw [HP.out]; simp)
      have HS9 : Hid (S = (decide (SN ≠ 0) && decide (mn = 0 ∧ mx = 0))) := Lib.hid (by rw [HSS.out]; simp)
      clear HP HSS HLK HWI1 HWI2 HWI3 HWI4 HZ1 HZ2 HZ3
      go_wp2_with (first | (go_at_call 60; fail))
      go_at_call 60
      refine (HSL.out _).mono ?_
      rintro e w3 ⟨rfl, hb3⟩
      have HFB3 := Lib.hid (HFB.out.below hb3)
      have HBL3 := Lib.hid (HBL.out.trans (below_le hb3 HBL.out.size))
      clear hb3 HSL HFB HBL c0 c1 c2 c3 c4 c5 c6 c7 c8 c9 c10 c11 c12 c13 c14 c15 hlt
      obtain ⟨_, _, _, _, c4, c5, _⟩ := HFB3.out.cells
      simp only at c4 c5
      have hlt := HFB3.out.lt
      by_cases hs : SN = 0
      · have HR : Hid (R = false) := Lib.hid (by rw [HR1.out, HS9.out]; simp [hs])
        subst hs
        clear HR1 HS9
        go_wp2
        go_ret
        exact ⟨ret_bool HR.out.symm, HBL3.out⟩
      · have hs2 : ((SN : Int) == 0) = false := by simp; omega
        by_cases hm : mn = 0
        · have HR : Hid (R = (mx == 0)) := Lib.hid (by rw [HR1.out, HS9.out]; simp [hs, hm]; rfl)
          subst hm
          clear HR1 HS9 hs
          go_wp2
          go_ret
          exact ⟨ret_bool HR.out.symm, HBL3.out⟩
        · have HR : Hid (R = false) := Lib.hid (by rw [HR1.out, HS9.out]; simp [hm])
          have hm2 : (mn == 0) = false := by simpa using hm
          clear HR1 HS9 hs hm
          go_wp2
          go_ret
          exact ⟨ret_bool HR.out.symm, HBL3.out⟩
set_option maxRecDepth 100000 in
set_option maxHeartbeats 16000000 in
theorem dOwn_Z (f : Fld) (xo : Option Addr) (co : Nat) (xl : Option Addr) (cl : Nat) (hL : f.op.length ≤ 1000) (hs : ∀ i, i < f.op.length → (f.op.getD i []).length ≤ 900000) (hcl : f.k ≠ 9 ∧ (zF f.lo && (zF f.hi && zF f.st)) = false) (w : World) (hv : TxV w (.slice xo f.op.length co) f.op) :
    Calls Tryz.prog 44 #[(f.fl xo co xl cl).v] w fun e w' => e = .returned (.bool (ownP f)) ∧ Below w.heap.size w w' := by
  have HSL := Lib.hid (fun W => dSlides (f.fl xo co xl cl) W)
  rw [sld_fl] at HSL
  obtain ⟨R, hR⟩ : ∃ R, R = ownP f := ⟨_, rfl⟩
  rw [← hR]
  unfold ownP at hR
  generalize sldN f = SN at HSL hR
  obtain ⟨k, nm0, lb0, op, mn, mx, lo, hi, st, ⟨ds0, dn, db, dl, df⟩, sh0, ck0⟩ := f
  unfold Fld.fl at HSL ⊢
  unfold FL.v FL.a at HSL ⊢
  simp only at HSL hR hL hs hv hcl ⊢
  generalize tx nm0 = nm at HSL ⊢
  generalize tx lb0 = lb at HSL ⊢
  generalize tx ds0 = ds at HSL ⊢
  generalize tx sh0 = sh at HSL ⊢
  generalize tx ck0 = ck at HSL ⊢
  generalize dl.length = nl at HSL ⊢
  have HOP := Lib.hid (fun W (h : TxV W (.slice xo op.length co) op) => doptions op hL hs xo co W h)
  have HLI := Lib.hid (fun W => dlisted k W)
  have HWI := Lib.hid (fun a b c W => dwithin a b c W)
  have HZ1 := Lib.hid (zf_test lo)
  have HZ2 := Lib.hid (zf_test hi)
  have HZ3 := Lib.hid (zf_test st)
  have HO1 : Hid (decide (op = []) = decide (op.length = 0)) := Lib.hid (by rw [decide_eq_decide, List.length_eq_zero_iff])
  obtain ⟨no, hno⟩ : ∃ no, no = op.length := ⟨_, rfl⟩
  rw [← hno] at hv HSL HOP HO1 hL hR ⊢
  generalize optsP op = OB at HOP hR
  generalize zF lo = z1 at HZ1 hR hcl
  generalize zF hi = z2 at HZ2 hR hcl
  generalize zF st = z3 at HZ3 hR hcl
  have HCL := Lib.hid hcl
  clear hcl
  obtain ⟨B1, hB1⟩ : ∃ W1, W1 = w.alloc (.cells #[.int .i64 k, .string nm, .string lb, .slice xo no co, .int .i64 mn, .int .i64 mx, .float .f64 lo, .float .f64 hi, .float .f64 st, .string ds, .int .i64 dn, .bool db, .slice xl nl cl, .float .f64 df, .string sh, .string ck] 66) := ⟨_, rfl⟩
  have hbl : Below w.heap.size w B1 := by rw [hB1]; exact (Below.refl _ _).alloc (Nat.le_refl _) _
  have HFB : Hid (FLB B1 w.heap.size ⟨k, nm, lb, xo, no, co, mn, mx, lo, hi, st, ds, dn, db, xl, nl, cl, df, sh, ck⟩) := Lib.hid (by rw [hB1]; exact heap_alloc_new _ _)
  have HOP1 := Lib.hid (HOP.out B1 (hv.below hbl))
  have HBL := Lib.hid hbl
  obtain ⟨lk, hlk⟩ : ∃ lk, lk = listK k := ⟨_, rfl⟩
  rw [← hlk] at HLI hR
  clear hv hbl hs HOP hno
  obtain ⟨c0, c1, c2, c3, c4, c5, c6, c7, c8, c9, c10, c11, c12, c13, c14, c15⟩ := HFB.out.cells
  simp only at c0 c1 c2 c3 c4 c5 c6 c7 c8 c9 c10 c11 c12 c13 c14 c15
  have hlt := HFB.out.lt
  go_enter Tryz.func44, Tryz.ntmps44
  go_wp2_with (first | (go_at_call 58; fail))
  rw [← hB1]
  refine (HLI.out _).mono ?_
  rintro e w1 ⟨rfl, rfl⟩
  clear HLI hB1
  have HWI1 := Lib.hid (fun W => HWI.out mx mn 4096 W)
  have HWI2 := Lib.hid (fun W => HWI.out mn (-999999999999999) 999999999999999 W)
  have HWI3 := Lib.hid (fun W => HWI.out mx (-999999999999999) 999999999999999 W)
  have HWI4 := Lib.hid (fun W => HWI.out mx mn (no : Nat) W)
  clear HWI
  obtain ⟨S, hS⟩ : ∃ S : Bool, S = (if k = 1 ∨ k = 2 then decide (0 ≤ mn ∧ mn ≤ mx ∧ mx ≤ 4096)
      else if k = 3 then decide (mn ≤ mx ∧ -999999999999999 ≤ mn ∧ mn ≤ 999999999999999 ∧ -999999999999999 ≤ mx ∧ mx ≤ 999999999999999)
      else if k = 7 then decide (0 ≤ mn ∧ mn ≤ mx ∧ mx ≤ (no : Int))
      else (decide (k ≠ 9) || decide (SN ≠ 0)) && decide (mn = 0 ∧ mx = 0)) := ⟨_, rfl⟩
  rw [← hS] at hR
  have HSS := Lib.hid hS
  have HLK := Lib.hid hlk
  clear hS hlk hL
  cases lk
  · rw [if_neg (by simp), HO1.out] at hR
    by_cases hn : no = 0
    · subst hn
      have HP : Hid (R = ((decide (k = 9) || (z1 && (z2 && z3))) && S)) := Lib.hid (by rw [hR]; simp)
      clear hR HO1 HOP1 OB
      go_upto_region 6 with (fail)
      have hcl := HCL.out
      clear HCL
      obtain ⟨h9, hz⟩ := hcl
      have ht9 : (k != 9) = true := by simpa using h9
      have HR1 : Hid (R = ((z1 && (z2 && z3)) && S)) := Lib.hid (by rw [HP.out]; simp [h9])
      have HN9 := Lib.hid h9
      clear HP HSL h9
      cases z1
      · have o1 := HZ1.out
        have HR : Hid (R = false) := Lib.hid HR1.out
        clear HR1 HSS HLK HWI1 HWI2 HWI3 HWI4 HZ1 HZ2 HZ3
        go_wp2
        go_ret
        exact ⟨ret_bool HR.out.symm, HBL.out⟩
      cases z2
      · have o1 := HZ1.out
        have o2 := HZ2.out
        have HR : Hid (R = false) := Lib.hid HR1.out
        clear HR1 HSS HLK HWI1 HWI2 HWI3 HWI4 HZ1 HZ2 HZ3
        go_wp2
        go_ret
        exact ⟨ret_bool HR.out.symm, HBL.out⟩
      cases z3
      · have o1 := HZ1.out
        have o2 := HZ2.out
        have o3 := HZ3.out
        have HR : Hid (R = false) := Lib.hid HR1.out
        clear HR1 HSS HLK HWI1 HWI2 HWI3 HWI4 HZ1 HZ2 HZ3
        go_wp2
        go_ret
        exact ⟨ret_bool HR.out.symm, HBL.out⟩
      simp at hz
    · have HR : Hid (R = false) := Lib.hid (by rw [hR, decide_eq_false hn]; rfl)
      have ht : decide (0 < no) = true := by simp; omega
      clear hR HO1 HOP1 hn
      go_wp2
      go_ret
      exact ⟨ret_bool HR.out.symm, HBL.out⟩
  · rw [if_pos rfl] at hR
    cases OB
    · have HR : Hid (R = false) := Lib.hid hR
      clear hR HO1
      go_wp2_with (first | (go_at_call 59; refine HOP1.out.mono ?_; rintro e w2 ⟨rfl, hb2⟩))
      go_ret
      exact ⟨ret_bool HR.out.symm, HBL.out.trans (below_le hb2 HBL.out.size)⟩
    · have HP : Hid (R = ((decide (k = 9) || (z1 && (z2 && z3))) && S)) := Lib.hid (by rw [hR]; simp)
      clear hR HO1
      go_wp2_with (first | (go_at_call 59; fail))
      go_at_call 59
      refine HOP1.out.mono ?_
      rintro e w2 ⟨rfl, hb2⟩
      replace HFB := Lib.hid (HFB.out.below hb2)
      replace HBL := Lib.hid (HBL.out.trans (below_le hb2 HBL.out.size))
      clear hb2 HOP1 c0 c1 c2 c3 c4 c5 c6 c7 c8 c9 c10 c11 c12 c13 c14 c15 hlt
      obtain ⟨c0, c1, c2, c3, c4, c5, c6, c7, c8, c9, c10, c11, c12, c13, c14, c15⟩ := HFB.out.cells
      simp only at c0 c1 c2 c3 c4 c5 c6 c7 c8 c9 c10 c11 c12 c13 c14 c15
      have hlt := HFB.out.lt
      go_upto_region 6 with (fail)
      have hcl := HCL.out
      clear HCL
      obtain ⟨h9, hz⟩ := hcl
      have ht9 : (k != 9) = true := by simpa using h9
      have HR1 : Hid (R = ((z1 && (z2 && z3)) && S)) := Lib.hid (by rw [HP.out]; simp [h9])
      have HN9 := Lib.hid h9
      clear HP HSL h9
      cases z1
      · have o1 := HZ1.out
        have HR : Hid (R = false) := Lib.hid HR1.out
        clear HR1 HSS HLK HWI1 HWI2 HWI3 HWI4 HZ1 HZ2 HZ3
        go_wp2
        go_ret
        exact ⟨ret_bool HR.out.symm, HBL.out⟩
      cases z2
      · have o1 := HZ1.out
        have o2 := HZ2.out
        have HR : Hid (R = false) := Lib.hid HR1.out
        clear HR1 HSS HLK HWI1 HWI2 HWI3 HWI4 HZ1 HZ2 HZ3
        go_wp2
        go_ret
        exact ⟨ret_bool HR.out.symm, HBL.out⟩
      cases z3
      · have o1 := HZ1.out
        have o2 := HZ2.out
        have o3 := HZ3.out
        have HR : Hid (R = false) := Lib.hid HR1.out
        clear HR1 HSS HLK HWI1 HWI2 HWI3 HWI4 HZ1 HZ2 HZ3
        go_wp2
        go_ret
        exact ⟨ret_bool HR.out.symm, HBL.out⟩
      simp at hz
set_option maxRecDepth 100000 in
set_option maxHeartbeats 16000000 in
theorem dOwn_R (f : Fld) (xo : Option Addr) (co : Nat) (xl : Option Addr) (cl : Nat) (hL : f.op.length ≤ 1000) (hs : ∀ i, i < f.op.length → (f.op.getD i []).length ≤ 900000) (hcl : f.k ≠ 9 ∧ (zF f.lo && (zF f.hi && zF f.st)) = true) (w : World) (hv : TxV w (.slice xo f.op.length co) f.op) :
    Calls Tryz.prog 44 #[(f.fl xo co xl cl).v] w fun e w' => e = .returned (.bool (ownP f)) ∧ Below w.heap.size w w' := by
  have HSL := Lib.hid (fun W => dSlides (f.fl xo co xl cl) W)
  rw [sld_fl] at HSL
  obtain ⟨R, hR⟩ : ∃ R, R = ownP f := ⟨_, rfl⟩
  rw [← hR]
  unfold ownP at hR
  generalize sldN f = SN at HSL hR
  obtain ⟨k, nm0, lb0, op, mn, mx, lo, hi, st, ⟨ds0, dn, db, dl, df⟩, sh0, ck0⟩ := f
  unfold Fld.fl at HSL ⊢
  unfold FL.v FL.a at HSL ⊢
  simp only at HSL hR hL hs hv hcl ⊢
  generalize tx nm0 = nm at HSL ⊢
  generalize tx lb0 = lb at HSL ⊢
  generalize tx ds0 = ds at HSL ⊢
  generalize tx sh0 = sh at HSL ⊢
  generalize tx ck0 = ck at HSL ⊢
  generalize dl.length = nl at HSL ⊢
  have HOP := Lib.hid (fun W (h : TxV W (.slice xo op.length co) op) => doptions op hL hs xo co W h)
  have HLI := Lib.hid (fun W => dlisted k W)
  have HWI := Lib.hid (fun a b c W => dwithin a b c W)
  have HZ1 := Lib.hid (zf_test lo)
  have HZ2 := Lib.hid (zf_test hi)
  have HZ3 := Lib.hid (zf_test st)
  have HO1 : Hid (decide (op = []) = decide (op.length = 0)) := Lib.hid (by rw [decide_eq_decide, List.length_eq_zero_iff])
  obtain ⟨no, hno⟩ : ∃ no, no = op.length := ⟨_, rfl⟩
  rw [← hno] at hv HSL HOP HO1 hL hR ⊢
  generalize optsP op = OB at HOP hR
  generalize zF lo = z1 at HZ1 hR hcl
  generalize zF hi = z2 at HZ2 hR hcl
  generalize zF st = z3 at HZ3 hR hcl
  have HCL := Lib.hid hcl
  clear hcl
  obtain ⟨B1, hB1⟩ : ∃ W1, W1 = w.alloc (.cells #[.int .i64 k, .string nm, .string lb, .slice xo no co, .int .i64 mn, .int .i64 mx, .float .f64 lo, .float .f64 hi, .float .f64 st, .string ds, .int .i64 dn, .bool db, .slice xl nl cl, .float .f64 df, .string sh, .string ck] 66) := ⟨_, rfl⟩
  have hbl : Below w.heap.size w B1 := by rw [hB1]; exact (Below.refl _ _).alloc (Nat.le_refl _) _
  have HFB : Hid (FLB B1 w.heap.size ⟨k, nm, lb, xo, no, co, mn, mx, lo, hi, st, ds, dn, db, xl, nl, cl, df, sh, ck⟩) := Lib.hid (by rw [hB1]; exact heap_alloc_new _ _)
  have HOP1 := Lib.hid (HOP.out B1 (hv.below hbl))
  have HBL := Lib.hid hbl
  obtain ⟨lk, hlk⟩ : ∃ lk, lk = listK k := ⟨_, rfl⟩
  rw [← hlk] at HLI hR
  clear hv hbl hs HOP hno
  obtain ⟨c0, c1, c2, c3, c4, c5, c6, c7, c8, c9, c10, c11, c12, c13, c14, c15⟩ := HFB.out.cells
  simp only at c0 c1 c2 c3 c4 c5 c6 c7 c8 c9 c10 c11 c12 c13 c14 c15
  have hlt := HFB.out.lt
  go_enter Tryz.func44, Tryz.ntmps44
  go_wp2_with (first | (go_at_call 58; fail))
  rw [← hB1]
  refine (HLI.out _).mono ?_
  rintro e w1 ⟨rfl, rfl⟩
  clear HLI hB1
  have HWI1 := Lib.hid (fun W => HWI.out mx mn 4096 W)
  have HWI2 := Lib.hid (fun W => HWI.out mn (-999999999999999) 999999999999999 W)
  have HWI3 := Lib.hid (fun W => HWI.out mx (-999999999999999) 999999999999999 W)
  have HWI4 := Lib.hid (fun W => HWI.out mx mn (no : Nat) W)
  clear HWI
  obtain ⟨S, hS⟩ : ∃ S : Bool, S = (if k = 1 ∨ k = 2 then decide (0 ≤ mn ∧ mn ≤ mx ∧ mx ≤ 4096)
      else if k = 3 then decide (mn ≤ mx ∧ -999999999999999 ≤ mn ∧ mn ≤ 999999999999999 ∧ -999999999999999 ≤ mx ∧ mx ≤ 999999999999999)
      else if k = 7 then decide (0 ≤ mn ∧ mn ≤ mx ∧ mx ≤ (no : Int))
      else (decide (k ≠ 9) || decide (SN ≠ 0)) && decide (mn = 0 ∧ mx = 0)) := ⟨_, rfl⟩
  rw [← hS] at hR
  have HSS := Lib.hid hS
  have HLK := Lib.hid hlk
  clear hS hlk hL
  cases lk
  · rw [if_neg (by simp), HO1.out] at hR
    by_cases hn : no = 0
    · subst hn
      have HP : Hid (R = ((decide (k = 9) || (z1 && (z2 && z3))) && S)) := Lib.hid (by rw [hR]; simp)
      clear hR HO1 HOP1 OB
      go_upto_region 6 with (fail)
      have hcl := HCL.out
      clear HCL
      obtain ⟨h9, hz⟩ := hcl
      have ht9 : (k != 9) = true := by simpa using h9
      have HR1 : Hid (R = ((z1 && (z2 && z3)) && S)) := Lib.hid (by rw [HP.out]; simp [h9])
      have HN9 := Lib.hid h9
      clear HP HSL h9
      obtain ⟨rfl, rfl, rfl⟩ : z1 = true ∧ z2 = true ∧ z3 = true := by simpa [and_assoc] using hz
      have o1 := HZ1.out
      have o2 := HZ2.out
      have o3 := HZ3.out
      have HR2 : Hid (R = S) := Lib.hid HR1.out
      clear HR1 HZ1 HZ2 HZ3
      by_cases h1 : k = 1
      · have HS1 : Hid (S = decide (0 ≤ mn ∧ mn ≤ mx ∧ mx ≤ 4096)) := Lib.hid (by rw [HSS.out, if_pos (by omega)])
        subst h1
        clear HSS HLK HWI2 HWI3 HWI4 HN9
        by_cases g1 : 0 ≤ mn
        · have t1 : decide ((0 : Int) ≤ mn) = true := by simp [g1]
          have HR : Hid (R = decide (mn ≤ mx ∧ mx ≤ 4096)) := Lib.hid (by rw [HR2.out, HS1.out, decide_eq_decide]; omega)
          generalize decide (mn ≤ mx ∧ mx ≤ 4096) = V at HWI1 HR
          clear HR2 HS1 g1
          go_wp2_with (first | (go_at_call 29; refine (HWI1.out _).mono ?_; rintro e w3 ⟨rfl, rfl⟩))
          go_ret
          exact ⟨ret_bool HR.out.symm, HBL.out⟩
        · have t1 : decide ((0 : Int) ≤ mn) = false := by simp; omega
          have HR : Hid (R = false) := Lib.hid (by rw [HR2.out, HS1.out, decide_eq_false_iff_not]; omega)
          clear HR2 HS1 g1 HWI1
          go_wp2
          go_ret
          exact ⟨ret_bool HR.out.symm, HBL.out⟩
      by_cases h2 : k = 2
      · have HS1 : Hid (S = decide (0 ≤ mn ∧ mn ≤ mx ∧ mx ≤ 4096)) := Lib.hid (by rw [HSS.out, if_pos (by omega)])
        subst h2
        clear HSS HLK HWI2 HWI3 HWI4 HN9
        by_cases g1 : 0 ≤ mn
        · have t1 : decide ((0 : Int) ≤ mn) = true := by simp [g1]
          have HR : Hid (R = decide (mn ≤ mx ∧ mx ≤ 4096)) := Lib.hid (by rw [HR2.out, HS1.out, decide_eq_decide]; omega)
          generalize decide (mn ≤ mx ∧ mx ≤ 4096) = V at HWI1 HR
          clear HR2 HS1 g1
          go_wp2_with (first | (go_at_call 29; refine (HWI1.out _).mono ?_; rintro e w3 ⟨rfl, rfl⟩))
          go_ret
          exact ⟨ret_bool HR.out.symm, HBL.out⟩
        · have t1 : decide ((0 : Int) ≤ mn) = false := by simp; omega
          have HR : Hid (R = false) := Lib.hid (by rw [HR2.out, HS1.out, decide_eq_false_iff_not]; omega)
          clear HR2 HS1 g1 HWI1
          go_wp2
          go_ret
          exact ⟨ret_bool HR.out.symm, HBL.out⟩
      by_cases h3 : k = 3
      · have HS3 : Hid (S = decide (mn ≤ mx ∧ -999999999999999 ≤ mn ∧ mn ≤ 999999999999999 ∧ -999999999999999 ≤ mx ∧ mx ≤ 999999999999999)) := Lib.hid (by rw [HSS.out, if_neg (by omega), if_pos h3])
        subst h3
        clear HSS HLK HWI1 HWI4 HN9
        by_cases g1 : mn ≤ mx
        · have t1 : decide (mn ≤ mx) = true := by simp [g1]
          by_cases g2 : -999999999999999 ≤ mn ∧ mn ≤ 999999999999999
          · rw [decide_eq_true g2] at HWI2
            have HR : Hid (R = decide (-999999999999999 ≤ mx ∧ mx ≤ 999999999999999)) := Lib.hid (by rw [HR2.out, HS3.out, decide_eq_decide]; omega)
            generalize decide (-999999999999999 ≤ mx ∧ mx ≤ 999999999999999) = V at HWI3 HR
            clear HR2 HS3 g1 g2
            go_wp2_with (first | (go_at_call 29; (with_reducible refine (HWI2.out _).mono ?_); rintro e w3 ⟨rfl, rfl⟩) | (go_at_call 29; (with_reducible refine (HWI3.out _).mono ?_); rintro e w3 ⟨rfl, rfl⟩))
            go_ret
            exact ⟨ret_bool HR.out.symm, HBL.out⟩
          · rw [decide_eq_false g2] at HWI2
            have HR : Hid (R = false) := Lib.hid (by rw [HR2.out, HS3.out, decide_eq_false_iff_not]; omega)
            clear HR2 HS3 g1 g2 HWI3
            go_wp2_with (first | (go_at_call 29; refine (HWI2.out _).mono ?_; rintro e w3 ⟨rfl, rfl⟩))
            go_ret
            exact ⟨ret_bool HR.out.symm, HBL.out⟩
        · have t1 : decide (mn ≤ mx) = false := by simp; omega
          have HR : Hid (R = false) := Lib.hid (by rw [HR2.out, HS3.out, decide_eq_false_iff_not]; omega)
          clear HR2 HS3 g1 HWI2 HWI3
          go_wp2
          go_ret
          exact ⟨ret_bool HR.out.symm, HBL.out⟩
      by_cases h7 : k = 7
      · have HS7 : Hid (S = decide (0 ≤ mn ∧ mn ≤ mx ∧ mx ≤ ((0 : Nat) : Int))) := Lib.hid (by rw [HSS.out, if_neg (by omega), if_neg (by omega), if_pos h7])
        subst h7
        clear HSS HLK HWI1 HWI2 HWI3 HN9
        by_cases g1 : 0 ≤ mn
        · have t1 : decide ((0 : Int) ≤ mn) = true := by simp [g1]
          have HR : Hid (R = decide (mn ≤ mx ∧ mx ≤ ((0 : Nat) : Int))) := Lib.hid (by rw [HR2.out, HS7.out, decide_eq_decide]; omega)
          generalize decide (mn ≤ mx ∧ mx ≤ ((0 : Nat) : Int)) = V at HWI4 HR
          clear HR2 HS7 g1
          go_wp2_with (first | (go_at_call 29; refine (HWI4.out _).mono ?_; rintro e w3 ⟨rfl, rfl⟩))
          go_ret
          exact ⟨ret_bool HR.out.symm, HBL.out⟩
        · have t1 : decide ((0 : Int) ≤ mn) = false := by simp; omega
          have HR : Hid (R = false) := Lib.hid (by rw [HR2.out, HS7.out, decide_eq_false_iff_not]; omega)
          clear HR2 HS7 g1 HWI4
          go_wp2
          go_ret
          exact ⟨ret_bool HR.out.symm, HBL.out⟩
      have h9 := HN9.out
      have b1 : (k == 1) = false := by simpa using h1
      have b2 : (k == 2) = false := by simpa using h2
      have b3 : (k == 3) = false := by simpa using h3
      have b7 : (k == 7) = false := by simpa using h7
      have b9 : (k == 9) = false := by simpa using h9
      have HSO : Hid (S = decide (mn = 0 ∧ mx = 0)) := Lib.hid (by rw [HSS.out, if_neg (by omega), if_neg (by omega), if_neg (by omega)]; simp [h9])
      clear HSS HLK HWI1 HWI2 HWI3 HWI4 HN9 h1 h2 h3 h7 h9
      by_cases hm : mn = 0
      · have HR : Hid (R = (mx == 0)) := Lib.hid (by rw [HR2.out, HSO.out]; simp [hm]; rfl)
        subst hm
        clear HR2 HSO
        go_wp2
        go_ret
        exact ⟨ret_bool HR.out.symm, HBL.out⟩
      · have HR : Hid (R = false) := Lib.hid (by rw [HR2.out, HSO.out]; simp [hm])
        have hm2 : (mn == 0) = false := by simpa using hm
        clear HR2 HSO hm
        go_wp2
        go_ret
        exact ⟨ret_bool HR.out.symm, HBL.out⟩
    · have HR : Hid (R = false) := Lib.hid (by rw [hR, decide_eq_false hn]; rfl)
      have ht : decide (0 < no) = true := by simp; omega
      clear hR HO1 HOP1 hn
      go_wp2
      go_ret
      exact ⟨ret_bool HR.out.symm, HBL.out⟩
  · rw [if_pos rfl] at hR
    cases OB
    · have HR : Hid (R = false) := Lib.hid hR
      clear hR HO1
      go_wp2_with (first | (go_at_call 59; refine HOP1.out.mono ?_; rintro e w2 ⟨rfl, hb2⟩))
      go_ret
      exact ⟨ret_bool HR.out.symm, HBL.out.trans (below_le hb2 HBL.out.size)⟩
    · have HP : Hid (R = ((decide (k = 9) || (z1 && (z2 && z3))) && S)) := Lib.hid (by rw [hR]; simp)
      clear hR HO1
      go_wp2_with (first | (go_at_call 59; fail))
      go_at_call 59
      refine HOP1.out.mono ?_
      rintro e w2 ⟨rfl, hb2⟩
      replace HFB := Lib.hid (HFB.out.below hb2)
      replace HBL := Lib.hid (HBL.out.trans (below_le hb2 HBL.out.size))
      clear hb2 HOP1 c0 c1 c2 c3 c4 c5 c6 c7 c8 c9 c10 c11 c12 c13 c14 c15 hlt
      obtain ⟨c0, c1, c2, c3, c4, c5, c6, c7, c8, c9, c10, c11, c12, c13, c14, c15⟩ := HFB.out.cells
      simp only at c0 c1 c2 c3 c4 c5 c6 c7 c8 c9 c10 c11 c12 c13 c14 c15
      have hlt := HFB.out.lt
      go_upto_region 6 with (fail)
      have hcl := HCL.out
      clear HCL
      obtain ⟨h9, hz⟩ := hcl
      have ht9 : (k != 9) = true := by simpa using h9
      have HR1 : Hid (R = ((z1 && (z2 && z3)) && S)) := Lib.hid (by rw [HP.out]; simp [h9])
      have HN9 := Lib.hid h9
      clear HP HSL h9
      obtain ⟨rfl, rfl, rfl⟩ : z1 = true ∧ z2 = true ∧ z3 = true := by simpa [and_assoc] using hz
      have o1 := HZ1.out
      have o2 := HZ2.out
      have o3 := HZ3.out
      have HR2 : Hid (R = S) := Lib.hid HR1.out
      clear HR1 HZ1 HZ2 HZ3
      by_cases h1 : k = 1
      · have HS1 : Hid (S = decide (0 ≤ mn ∧ mn ≤ mx ∧ mx ≤ 4096)) := Lib.hid (by rw [HSS.out, if_pos (by omega)])
        subst h1
        clear HSS HLK HWI2 HWI3 HWI4 HN9
        by_cases g1 : 0 ≤ mn
        · have t1 : decide ((0 : Int) ≤ mn) = true := by simp [g1]
          have HR : Hid (R = decide (mn ≤ mx ∧ mx ≤ 4096)) := Lib.hid (by rw [HR2.out, HS1.out, decide_eq_decide]; omega)
          generalize decide (mn ≤ mx ∧ mx ≤ 4096) = V at HWI1 HR
          clear HR2 HS1 g1
          go_wp2_with (first | (go_at_call 29; refine (HWI1.out _).mono ?_; rintro e w3 ⟨rfl, rfl⟩))
          go_ret
          exact ⟨ret_bool HR.out.symm, HBL.out⟩
        · have t1 : decide ((0 : Int) ≤ mn) = false := by simp; omega
          have HR : Hid (R = false) := Lib.hid (by rw [HR2.out, HS1.out, decide_eq_false_iff_not]; omega)
          clear HR2 HS1 g1 HWI1
          go_wp2
          go_ret
          exact ⟨ret_bool HR.out.symm, HBL.out⟩
      by_cases h2 : k = 2
      · have HS1 : Hid (S = decide (0 ≤ mn ∧ mn ≤ mx ∧ mx ≤ 4096)) := Lib.hid (by rw [HSS.out, if_pos (by omega)])
        subst h2
        clear HSS HLK HWI2 HWI3 HWI4 HN9
        by_cases g1 : 0 ≤ mn
        · have t1 : decide ((0 : Int) ≤ mn) = true := by simp [g1]
          have HR : Hid (R = decide (mn ≤ mx ∧ mx ≤ 4096)) := Lib.hid (by rw [HR2.out, HS1.out, decide_eq_decide]; omega)
          generalize decide (mn ≤ mx ∧ mx ≤ 4096) = V at HWI1 HR
          clear HR2 HS1 g1
          go_wp2_with (first | (go_at_call 29; refine (HWI1.out _).mono ?_; rintro e w3 ⟨rfl, rfl⟩))
          go_ret
          exact ⟨ret_bool HR.out.symm, HBL.out⟩
        · have t1 : decide ((0 : Int) ≤ mn) = false := by simp; omega
          have HR : Hid (R = false) := Lib.hid (by rw [HR2.out, HS1.out, decide_eq_false_iff_not]; omega)
          clear HR2 HS1 g1 HWI1
          go_wp2
          go_ret
          exact ⟨ret_bool HR.out.symm, HBL.out⟩
      by_cases h3 : k = 3
      · have HS3 : Hid (S = decide (mn ≤ mx ∧ -999999999999999 ≤ mn ∧ mn ≤ 999999999999999 ∧ -999999999999999 ≤ mx ∧ mx ≤ 999999999999999)) := Lib.hid (by rw [HSS.out, if_neg (by omega), if_pos h3])
        subst h3
        clear HSS HLK HWI1 HWI4 HN9
        by_cases g1 : mn ≤ mx
        · have t1 : decide (mn ≤ mx) = true := by simp [g1]
          by_cases g2 : -999999999999999 ≤ mn ∧ mn ≤ 999999999999999
          · rw [decide_eq_true g2] at HWI2
            have HR : Hid (R = decide (-999999999999999 ≤ mx ∧ mx ≤ 999999999999999)) := Lib.hid (by rw [HR2.out, HS3.out, decide_eq_decide]; omega)
            generalize decide (-999999999999999 ≤ mx ∧ mx ≤ 999999999999999) = V at HWI3 HR
            clear HR2 HS3 g1 g2
            go_wp2_with (first | (go_at_call 29; (with_reducible refine (HWI2.out _).mono ?_); rintro e w3 ⟨rfl, rfl⟩) | (go_at_call 29; (with_reducible refine (HWI3.out _).mono ?_); rintro e w3 ⟨rfl, rfl⟩))
            go_ret
            exact ⟨ret_bool HR.out.symm, HBL.out⟩
          · rw [decide_eq_false g2] at HWI2
            have HR : Hid (R = false) := Lib.hid (by rw [HR2.out, HS3.out, decide_eq_false_iff_not]; omega)
            clear HR2 HS3 g1 g2 HWI3
            go_wp2_with (first | (go_at_call 29; refine (HWI2.out _).mono ?_; rintro e w3 ⟨rfl, rfl⟩))
            go_ret
            exact ⟨ret_bool HR.out.symm, HBL.out⟩
        · have t1 : decide (mn ≤ mx) = false := by simp; omega
          have HR : Hid (R = false) := Lib.hid (by rw [HR2.out, HS3.out, decide_eq_false_iff_not]; omega)
          clear HR2 HS3 g1 HWI2 HWI3
          go_wp2
          go_ret
          exact ⟨ret_bool HR.out.symm, HBL.out⟩
      by_cases h7 : k = 7
      · have HS7 : Hid (S = decide (0 ≤ mn ∧ mn ≤ mx ∧ mx ≤ ((no : Nat) : Int))) := Lib.hid (by rw [HSS.out, if_neg (by omega), if_neg (by omega), if_pos h7])
        subst h7
        clear HSS HLK HWI1 HWI2 HWI3 HN9
        by_cases g1 : 0 ≤ mn
        · have t1 : decide ((0 : Int) ≤ mn) = true := by simp [g1]
          have HR : Hid (R = decide (mn ≤ mx ∧ mx ≤ ((no : Nat) : Int))) := Lib.hid (by rw [HR2.out, HS7.out, decide_eq_decide]; omega)
          generalize decide (mn ≤ mx ∧ mx ≤ ((no : Nat) : Int)) = V at HWI4 HR
          clear HR2 HS7 g1
          go_wp2_with (first | (go_at_call 29; refine (HWI4.out _).mono ?_; rintro e w3 ⟨rfl, rfl⟩))
          go_ret
          exact ⟨ret_bool HR.out.symm, HBL.out⟩
        · have t1 : decide ((0 : Int) ≤ mn) = false := by simp; omega
          have HR : Hid (R = false) := Lib.hid (by rw [HR2.out, HS7.out, decide_eq_false_iff_not]; omega)
          clear HR2 HS7 g1 HWI4
          go_wp2
          go_ret
          exact ⟨ret_bool HR.out.symm, HBL.out⟩
      have h9 := HN9.out
      have b1 : (k == 1) = false := by simpa using h1
      have b2 : (k == 2) = false := by simpa using h2
      have b3 : (k == 3) = false := by simpa using h3
      have b7 : (k == 7) = false := by simpa using h7
      have b9 : (k == 9) = false := by simpa using h9
      have HSO : Hid (S = decide (mn = 0 ∧ mx = 0)) := Lib.hid (by rw [HSS.out, if_neg (by omega), if_neg (by omega), if_neg (by omega)]; simp [h9])
      clear HSS HLK HWI1 HWI2 HWI3 HWI4 HN9 h1 h2 h3 h7 h9
      by_cases hm : mn = 0
      · have HR : Hid (R = (mx == 0)) := Lib.hid (by rw [HR2.out, HSO.out]; simp [hm]; rfl)
        subst hm
        clear HR2 HSO
        go_wp2
        go_ret
        exact ⟨ret_bool HR.out.symm, HBL.out⟩
      · have HR : Hid (R = false) := Lib.hid (by rw [HR2.out, HSO.out]; simp [hm])
        have hm2 : (mn == 0) = false := by simpa using hm
        clear HR2 HSO hm
        go_wp2
        go_ret
        exact ⟨ret_bool HR.out.symm, HBL.out⟩
theorem dOwn (f : Fld) (xo : Option Addr) (co : Nat) (xl : Option Addr) (cl : Nat) (hL : f.op.length ≤ 1000) (hs : ∀ i, i < f.op.length → (f.op.getD i []).length ≤ 900000) (w : World) (hv : TxV w (.slice xo f.op.length co) f.op) :
    Calls Tryz.prog 44 #[(f.fl xo co xl cl).v] w fun e w' => e = .returned (.bool (ownP f)) ∧ Below w.heap.size w w' := by
  by_cases h9 : f.k = 9
  · exact dOwn_9 f xo co xl cl hL hs h9 w hv
  cases hz : (zF f.lo && (zF f.hi && zF f.st))
  · exact dOwn_Z f xo co xl cl hL hs ⟨h9, hz⟩ w hv
  · exact dOwn_R f xo co xl cl hL hs ⟨h9, hz⟩ w hv
end Go.Proofs.YtdomglkcfecnnaaGreat
