/- Walks: the reference's leaves: Is, Control, low, Bytes. -/
import Derived.Test.YtdehjofmangmbaaGreatHB
namespace Go.Proofs.YtdehjofmangmbaaGreat
open Go.RowKit Go.Shelf
theorem rIs (r : Int) (w : World) : Calls Tryz.prog 64 #[.int .i32 r] w fun e w' => e = .returned (.bool (isR r)) ∧ w = w' := by
  by_cases h1 : 0 ≤ r
  · by_cases h2 : r ≤ 1114111
    · by_cases h3 : r < 55296
      · have HV := Lib.hid (show isR r = true by unfold isR; rw [decide_eq_true_iff]; omega)
        go_enter Tryz.func64, Tryz.ntmps64
        go_wp2
        go_ret
        exact ⟨ret_bool HV.out.symm, rfl⟩
      · have HV := Lib.hid (show isR r = decide (57343 < r) by unfold isR; rw [decide_eq_decide]; omega)
        go_enter Tryz.func64, Tryz.ntmps64
        go_wp2
        go_ret
        exact ⟨ret_bool HV.out.symm, rfl⟩
    · have HV := Lib.hid (show isR r = false by unfold isR; rw [decide_eq_false_iff_not]; omega)
      go_enter Tryz.func64, Tryz.ntmps64
      go_wp2
      go_ret
      exact ⟨ret_bool HV.out.symm, rfl⟩
  · have HV := Lib.hid (show isR r = false by unfold isR; rw [decide_eq_false_iff_not]; omega)
    go_enter Tryz.func64, Tryz.ntmps64
    go_wp2
    go_ret
    exact ⟨ret_bool HV.out.symm, rfl⟩
theorem rIs2 (r : Int) (w : World) : Calls Tryz.prog 66 #[.int .i32 r] w fun e w' => e = .returned (.bool (isR r)) ∧ w = w' := by
  by_cases h1 : 0 ≤ r
  · by_cases h2 : r ≤ 1114111
    · by_cases h3 : r < 55296
      · have HV := Lib.hid (show isR r = true by unfold isR; rw [decide_eq_true_iff]; omega)
        have h4 : ¬ 55296 ≤ r := by omega
        go_enter Tryz.func66, Tryz.ntmps66
        go_wp2
        go_ret
        exact ⟨ret_bool HV.out.symm, rfl⟩
      · have h4 : 55296 ≤ r := by omega
        by_cases h5 : r ≤ 57343
        · have HV := Lib.hid (show isR r = false by unfold isR; rw [decide_eq_false_iff_not]; omega)
          go_enter Tryz.func66, Tryz.ntmps66
          go_wp2
          go_ret
          exact ⟨ret_bool HV.out.symm, rfl⟩
        · have HV := Lib.hid (show isR r = true by unfold isR; rw [decide_eq_true_iff]; omega)
          go_enter Tryz.func66, Tryz.ntmps66
          go_wp2
          go_ret
          exact ⟨ret_bool HV.out.symm, rfl⟩
    · have HV := Lib.hid (show isR r = false by unfold isR; rw [decide_eq_false_iff_not]; omega)
      go_enter Tryz.func66, Tryz.ntmps66
      go_wp2
      go_ret
      exact ⟨ret_bool HV.out.symm, rfl⟩
  · have HV := Lib.hid (show isR r = false by unfold isR; rw [decide_eq_false_iff_not]; omega)
    go_enter Tryz.func66, Tryz.ntmps66
    go_wp2
    go_ret
    exact ⟨ret_bool HV.out.symm, rfl⟩
theorem rCtl (r : Int) (w : World) : Calls Tryz.prog 67 #[.int .i32 r] w fun e w' => e = .returned (.bool (ctl r)) ∧ w = w' := by
  by_cases h1 : 0 ≤ r
  · by_cases h2 : r ≤ 31
    · have HV := Lib.hid (show ctl r = true by unfold ctl; rw [decide_eq_true_iff]; omega)
      go_enter Tryz.func67, Tryz.ntmps67
      go_wp2
      go_ret
      exact ⟨ret_bool HV.out.symm, rfl⟩
    · by_cases h3 : 127 ≤ r
      · have HV := Lib.hid (show ctl r = decide (r ≤ 159) by unfold ctl; rw [decide_eq_decide]; omega)
        go_enter Tryz.func67, Tryz.ntmps67
        go_wp2
        go_ret
        exact ⟨ret_bool HV.out.symm, rfl⟩
      · have HV := Lib.hid (show ctl r = false by unfold ctl; rw [decide_eq_false_iff_not]; omega)
        go_enter Tryz.func67, Tryz.ntmps67
        go_wp2
        go_ret
        exact ⟨ret_bool HV.out.symm, rfl⟩
  · have HV := Lib.hid (show ctl r = false by unfold ctl; rw [decide_eq_false_iff_not]; omega)
    have h3 : ¬ 127 ≤ r := by omega
    go_enter Tryz.func67, Tryz.ntmps67
    go_wp2
    go_ret
    exact ⟨ret_bool HV.out.symm, rfl⟩
theorem rCtl3 (r : Int) (w : World) : Calls Tryz.prog 70 #[.int .i32 r] w fun e w' => e = .returned (.bool (ctl r)) ∧ w = w' := by
  by_cases h1 : 0 ≤ r
  · by_cases h2 : r ≤ 31
    · have HV := Lib.hid (show ctl r = true by unfold ctl; rw [decide_eq_true_iff]; omega)
      go_enter Tryz.func70, Tryz.ntmps70
      go_wp2
      go_ret
      exact ⟨ret_bool HV.out.symm, rfl⟩
    · by_cases h3 : 127 ≤ r
      · have HV := Lib.hid (show ctl r = decide (r ≤ 159) by unfold ctl; rw [decide_eq_decide]; omega)
        go_enter Tryz.func70, Tryz.ntmps70
        go_wp2
        go_ret
        exact ⟨ret_bool HV.out.symm, rfl⟩
      · have HV := Lib.hid (show ctl r = false by unfold ctl; rw [decide_eq_false_iff_not]; omega)
        go_enter Tryz.func70, Tryz.ntmps70
        go_wp2
        go_ret
        exact ⟨ret_bool HV.out.symm, rfl⟩
  · have HV := Lib.hid (show ctl r = false by unfold ctl; rw [decide_eq_false_iff_not]; omega)
    have h3 : ¬ 127 ≤ r := by omega
    go_enter Tryz.func70, Tryz.ntmps70
    go_wp2
    go_ret
    exact ⟨ret_bool HV.out.symm, rfl⟩
theorem rlow (n M : Int) (h0 : 0 ≤ n) (hM : M = n % 64) (w : World) : Calls Tryz.prog 65 #[.int .i32 n] w fun e w' => e = .returned (.int .u8 (128 + M)) ∧ w = w' := by
  have r1 : n.tmod 64 = M := by rw [Int.tmod_eq_emod_of_nonneg h0, hM]
  have b1 : 0 ≤ M := by omega
  have b2 : M < 64 := by omega
  clear hM
  go_enter Tryz.func65, Tryz.ntmps65
  go_wp2
  go_ret
  exact ⟨rfl, rfl⟩
set_option maxRecDepth 100000 in
set_option maxHeartbeats 4000000 in
theorem rbytes (r : Int) (w : World) : Calls Tryz.prog 43 #[.int .i32 r] w (BytesEnd (rb r) w) := by
  have HI := Lib.hid (rIs r)
  have HR := Lib.hid (show rb r = rb0 (if isR r = true then r else 65533) from rfl)
  obtain ⟨I, hI⟩ : ∃ I, I = isR r := ⟨_, rfl⟩
  have HQ := Lib.hid (show I = true → 0 ≤ r ∧ r ≤ 1114111 from fun h => by rw [hI] at h; unfold isR at h; rw [decide_eq_true_iff] at h; omega)
  obtain ⟨L, hL⟩ : ∃ L, L = rb r := ⟨_, rfl⟩
  rw [← hI] at HI HR
  rw [← hL] at HR ⊢
  clear hI hL
  cases I
  · have HV : Hid (L = [239, 191, 189]) := Lib.hid (HR.out.trans (by rw [if_neg (by decide)]; decide))
    have H1 := Lib.hid (rlow 65533 61 (by decide) (by decide))
    have H2 := Lib.hid (rlow 1023 63 (by decide) (by decide))
    go_enter Tryz.func43, Tryz.ntmps43
    go_wp2_with (first | (go_at_call 64; (with_reducible refine (HI.out _).mono ?_); rintro e w' ⟨rfl, rfl⟩) | (go_at_call 65; (first | (with_reducible refine (H1.out _).mono ?_) | (with_reducible refine (H2.out _).mono ?_)); rintro e w' ⟨rfl, rfl⟩))
    go_ret
    rw [HV.out]
    exact ⟨w.heap.size, rfl, heap_alloc_new _ _, Nat.le_refl _, (Below.refl _ _).alloc (Nat.le_refl _) _⟩
  · obtain ⟨h0, hm⟩ := HQ.out rfl
    have hr := HR.out
    rw [if_pos rfl] at hr
    clear HR HQ
    by_cases h1 : r < 128
    · have HV : Hid (L = [by8 r]) := Lib.hid (hr.trans (by unfold rb0; rw [if_pos h1]))
      have HE : Hid ((Lib.byteCells [by8 r]).toArray = #[.int .u8 (r)]) := Lib.hid (by
        simp only [Lib.byteCells, List.map]
        rw [← by8_v (r) (by omega) (by omega)])
      clear hr
      go_enter Tryz.func43, Tryz.ntmps43
      go_wp2_with (first | (go_at_call 64; (with_reducible refine (HI.out _).mono ?_); rintro e w' ⟨rfl, rfl⟩))
      go_ret
      rw [HV.out]
      exact ⟨w.heap.size, rfl, (by rw [HE.out]; exact heap_alloc_new _ _), Nat.le_refl _, (Below.refl _ _).alloc (Nat.le_refl _) _⟩
    · skip
      by_cases h2 : r < 2048
      · skip
        have tq1 : r.tdiv 64 = r / 64 := Int.tdiv_eq_ediv_of_nonneg h0
        obtain ⟨m0, hm0⟩ : ∃ m, m = r % 64 := ⟨_, rfl⟩
        have L0 := Lib.hid (rlow r m0 h0 hm0)
        have um0 : 0 ≤ m0 ∧ m0 < 64 := by omega
        obtain ⟨q1, hq1⟩ : ∃ m, m = r / 64 := ⟨_, rfl⟩
        have uq1 : 0 ≤ q1 ∧ q1 < 32 := by omega
        have L1 := L0
        have L2 := L0
        rw [← hq1] at tq1
        have HV : Hid (L = [by8 (192 + q1), by8 (128 + m0)]) := Lib.hid (by rw [hr]; unfold rb0; rw [if_neg h1, if_pos h2]; simp only [hm0, hq1])
        have HE : Hid ((Lib.byteCells [by8 (192 + q1), by8 (128 + m0)]).toArray = #[.int .u8 (192 + q1), .int .u8 (128 + m0)]) := Lib.hid (by
          simp only [Lib.byteCells, List.map]
          rw [← by8_v (192 + q1) (by omega) (by omega)]
          rw [← by8_v (128 + m0) (by omega) (by omega)])
        obtain ⟨am0, bm0⟩ := um0
        obtain ⟨aq1, bq1⟩ := uq1
        clear hr hm0 hq1
        go_enter Tryz.func43, Tryz.ntmps43
        go_wp2_with (first | (go_at_call 64; (with_reducible refine (HI.out _).mono ?_); rintro e w' ⟨rfl, rfl⟩) | (go_at_call 65; (first | (with_reducible refine (L0.out _).mono ?_) | (with_reducible refine (L1.out _).mono ?_) | (with_reducible refine (L2.out _).mono ?_)); rintro e w' ⟨rfl, rfl⟩))
        go_ret
        rw [HV.out]
        exact ⟨w.heap.size, rfl, (by rw [HE.out]; exact heap_alloc_new _ _), Nat.le_refl _, (Below.refl _ _).alloc (Nat.le_refl _) _⟩
      · skip
        by_cases h3 : r < 65536
        · skip
          have tq1 : r.tdiv 64 = r / 64 := Int.tdiv_eq_ediv_of_nonneg h0
          have tq2 : r.tdiv 4096 = r / 4096 := Int.tdiv_eq_ediv_of_nonneg h0
          obtain ⟨m0, hm0⟩ : ∃ m, m = r % 64 := ⟨_, rfl⟩
          obtain ⟨m1, hm1⟩ : ∃ m, m = r / 64 % 64 := ⟨_, rfl⟩
          have L0 := Lib.hid (rlow r m0 h0 hm0)
          have um0 : 0 ≤ m0 ∧ m0 < 64 := by omega
          have um1 : 0 ≤ m1 ∧ m1 < 64 := by omega
          obtain ⟨q1, hq1⟩ : ∃ m, m = r / 64 := ⟨_, rfl⟩
          have uq1 : 0 ≤ q1 ∧ q1 < 1024 := by omega
          obtain ⟨q2, hq2⟩ : ∃ m, m = r / 4096 := ⟨_, rfl⟩
          have uq2 : 0 ≤ q2 ∧ q2 < 16 := by omega
          have L1 := Lib.hid (rlow q1 m1 (by omega) (by rw [hq1]; exact hm1))
          have L2 := L0
          rw [← hq1] at tq1
          rw [← hq2] at tq2
          have HV : Hid (L = [by8 (224 + q2), by8 (128 + m1), by8 (128 + m0)]) := Lib.hid (by rw [hr]; unfold rb0; rw [if_neg h1, if_neg h2, if_pos h3]; simp only [hm0, hm1, hq2])
          have HE : Hid ((Lib.byteCells [by8 (224 + q2), by8 (128 + m1), by8 (128 + m0)]).toArray = #[.int .u8 (224 + q2), .int .u8 (128 + m1), .int .u8 (128 + m0)]) := Lib.hid (by
            simp only [Lib.byteCells, List.map]
            rw [← by8_v (224 + q2) (by omega) (by omega)]
            rw [← by8_v (128 + m1) (by omega) (by omega)]
            rw [← by8_v (128 + m0) (by omega) (by omega)])
          obtain ⟨am0, bm0⟩ := um0
          obtain ⟨am1, bm1⟩ := um1
          obtain ⟨aq1, bq1⟩ := uq1
          obtain ⟨aq2, bq2⟩ := uq2
          clear hr hm0 hm1 hq1 hq2
          go_enter Tryz.func43, Tryz.ntmps43
          go_wp2_with (first | (go_at_call 64; (with_reducible refine (HI.out _).mono ?_); rintro e w' ⟨rfl, rfl⟩) | (go_at_call 65; (first | (with_reducible refine (L0.out _).mono ?_) | (with_reducible refine (L1.out _).mono ?_) | (with_reducible refine (L2.out _).mono ?_)); rintro e w' ⟨rfl, rfl⟩))
          go_ret
          rw [HV.out]
          exact ⟨w.heap.size, rfl, (by rw [HE.out]; exact heap_alloc_new _ _), Nat.le_refl _, (Below.refl _ _).alloc (Nat.le_refl _) _⟩
        · skip
          have tq1 : r.tdiv 64 = r / 64 := Int.tdiv_eq_ediv_of_nonneg h0
          have tq2 : r.tdiv 4096 = r / 4096 := Int.tdiv_eq_ediv_of_nonneg h0
          have tq3 : r.tdiv 262144 = r / 262144 := Int.tdiv_eq_ediv_of_nonneg h0
          obtain ⟨m0, hm0⟩ : ∃ m, m = r % 64 := ⟨_, rfl⟩
          obtain ⟨m1, hm1⟩ : ∃ m, m = r / 64 % 64 := ⟨_, rfl⟩
          obtain ⟨m2, hm2⟩ : ∃ m, m = r / 4096 % 64 := ⟨_, rfl⟩
          have L0 := Lib.hid (rlow r m0 h0 hm0)
          have um0 : 0 ≤ m0 ∧ m0 < 64 := by omega
          have um1 : 0 ≤ m1 ∧ m1 < 64 := by omega
          have um2 : 0 ≤ m2 ∧ m2 < 64 := by omega
          obtain ⟨q1, hq1⟩ : ∃ m, m = r / 64 := ⟨_, rfl⟩
          have uq1 : 0 ≤ q1 ∧ q1 < 17408 := by omega
          obtain ⟨q2, hq2⟩ : ∃ m, m = r / 4096 := ⟨_, rfl⟩
          have uq2 : 0 ≤ q2 ∧ q2 < 272 := by omega
          obtain ⟨q3, hq3⟩ : ∃ m, m = r / 262144 := ⟨_, rfl⟩
          have uq3 : 0 ≤ q3 ∧ q3 < 5 := by omega
          have L1 := Lib.hid (rlow q1 m1 (by omega) (by rw [hq1]; exact hm1))
          have L2 := Lib.hid (rlow q2 m2 (by omega) (by rw [hq2]; exact hm2))
          rw [← hq1] at tq1
          rw [← hq2] at tq2
          rw [← hq3] at tq3
          have HV : Hid (L = [by8 (240 + q3), by8 (128 + m2), by8 (128 + m1), by8 (128 + m0)]) := Lib.hid (by rw [hr]; unfold rb0; rw [if_neg h1, if_neg h2, if_neg h3]; simp only [hm0, hm1, hm2, hq3])
          have HE : Hid ((Lib.byteCells [by8 (240 + q3), by8 (128 + m2), by8 (128 + m1), by8 (128 + m0)]).toArray = #[.int .u8 (240 + q3), .int .u8 (128 + m2), .int .u8 (128 + m1), .int .u8 (128 + m0)]) := Lib.hid (by
            simp only [Lib.byteCells, List.map]
            rw [← by8_v (240 + q3) (by omega) (by omega)]
            rw [← by8_v (128 + m2) (by omega) (by omega)]
            rw [← by8_v (128 + m1) (by omega) (by omega)]
            rw [← by8_v (128 + m0) (by omega) (by omega)])
          obtain ⟨am0, bm0⟩ := um0
          obtain ⟨am1, bm1⟩ := um1
          obtain ⟨am2, bm2⟩ := um2
          obtain ⟨aq1, bq1⟩ := uq1
          obtain ⟨aq2, bq2⟩ := uq2
          obtain ⟨aq3, bq3⟩ := uq3
          clear hr hm0 hm1 hm2 hq1 hq2 hq3
          go_enter Tryz.func43, Tryz.ntmps43
          go_wp2_with (first | (go_at_call 64; (with_reducible refine (HI.out _).mono ?_); rintro e w' ⟨rfl, rfl⟩) | (go_at_call 65; (first | (with_reducible refine (L0.out _).mono ?_) | (with_reducible refine (L1.out _).mono ?_) | (with_reducible refine (L2.out _).mono ?_)); rintro e w' ⟨rfl, rfl⟩))
          go_ret
          rw [HV.out]
          exact ⟨w.heap.size, rfl, (by rw [HE.out]; exact heap_alloc_new _ _), Nat.le_refl _, (Below.refl _ _).alloc (Nat.le_refl _) _⟩
end Go.Proofs.YtdehjofmangmbaaGreat
