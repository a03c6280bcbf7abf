/- Walks: the reference's nearest place. -/
import Derived.Test.YtepjdnokkgmhoaaD6
import Derived.Deep.QuietTactic
import Derived.BigQuiet
namespace Go.Proofs.Ytepjdnokkgmhoaa
open Go.RowKit Go.Shelf
set_option maxHeartbeats 1000000 in
theorem rnear_bad (lo hi step x : Nat) (w : World) (h : stepsE lo hi step ≠ 0) : Calls Try.prog 25 #[.float .f64 lo, .float .f64 hi, .float .f64 step, .float .f64 x] w fun e w' => e = .returned (.tuple #[.int .i64 0, .int .i64 (stepsE lo hi step)]) ∧ Below w.heap.size w w' := by
  have HV := Lib.hid (fun W => rvalues lo hi step W)
  have H := Lib.hid h
  clear h
  go_enter Try.func25, Try.ntmps25
  go_wp2_with (go_at_call 27; refine (HV.out _).mono ?_; rintro e w' (⟨h0, _⟩ | ⟨he, _, rfl, hB⟩); (exact absurd h0 H.out); have HB := Lib.hid hB; have HE := Lib.hid he; clear hB he)
  go_ret2
  exact ⟨by rw [HE.out]; rfl, HB.out⟩
set_option maxHeartbeats 1000000 in
theorem rnear_nan (lo hi step x : Nat) (w : World) (h : stepsE lo hi step = 0) (hx : isNan x = true) : Calls Try.prog 25 #[.float .f64 lo, .float .f64 hi, .float .f64 step, .float .f64 x] w fun e w' => e = .returned (.tuple #[.int .i64 0, .int .i64 1]) ∧ Below w.heap.size w w' := by
  have HV := Lib.hid (fun W => rvalues lo hi step W)
  have H := Lib.hid h
  have ho := ord_nan hx
  clear h hx
  go_enter Try.func25, Try.ntmps25
  go_wp2_with (go_at_call 27; refine (HV.out _).mono ?_; rintro e w' (⟨h0, v, rfl, hO, hB⟩ | ⟨he, _, rfl, hB⟩); (obtain ⟨x, cap, rfl⟩ := owns_slice hO); rotate_left; (have := H.out; omega); have HB := Lib.hid hB; clear hB hO h0)
  go_ret2
  exact ⟨rfl, HB.out⟩

theorem quiet_sym {P : Program} {f : FuncId} {args : Array Value} {w : World} {n : Nat} {v : Value}
    (h : Calls P f args (w.drewN n) fun e w' => e = .returned v ∧ w.drewN n = w') : Calls P f args (w.drewN n) fun e w'' => e = .returned v ∧ ∃ m, w'' = w.drewN m :=
  h.mono fun _ _ ⟨he, hm⟩ => ⟨he, n, hm.symm⟩
theorem prod_zero (step : Nat) (hs : finB step = true) : valN (rung (prodB step 0)) = 0 := by
  obtain ⟨h1, _⟩ := prod_rung step 0 hs (by decide)
  have h2 := (ofI_rung 0).1
  rw [Nat.zero_mul, RN_zero] at h2
  have h3 : rung (ofI ((0 : Nat) : Int)) = 0 := h2
  rw [h3, valN_zero, Nat.zero_mul, RN_zero] at h1
  rw [h1, valN_zero]
theorem steps_pos {lo hi step : Nat} (h : stepsE lo hi step = 0) : 0 < stepsN lo hi step := by
  obtain ⟨f1, f2, f3⟩ := steps_ok_fin h
  cases hb : stepsBad lo hi step
  case true => unfold stepsE at h; rw [hb] at h; simp at h
  have g := hb
  simp only [stepsBad, Bool.or_eq_false_iff, Bool.not_eq_false', decide_eq_false_iff_not] at g
  obtain ⟨_, _, _, g4, g5⟩ := g
  have hz := prod_zero step f3
  have hps := prod_sv step 0 f3 (by omega) (by decide)
  rw [hz] at hps
  have hpf : finB (prodB step 0) = true := by
    unfold finB
    rw [decide_eq_true_eq]
    rcases Nat.lt_or_ge (rung (prodB step 0)) (2047 * 2 ^ 52) with q | q
    · exact q
    · have := valN_le q
      rw [hz] at this
      have h2 := valN_lt (show 0 < 2047 * 2 ^ 52 by decide)
      omega
  have hv := val_sv lo step 0 f1 hpf
  have hv2 : sv (valB lo step 0) = sv lo := by
    rw [hv, hps]
    show rsv (sv lo + 0) = _
    rw [Int.add_zero]
    exact rsv_sv (fin_num f1)
  have hle : leB (valB lo step 0) hi = true := by
    unfold leB
    rw [order_val _ _ (valB_eq lo step 0 f1 f3 (by decide)).2.1 (fin_num f2), hv2]
    rcases Int.lt_or_eq_of_le (show sv lo ≤ sv hi by omega) with q | q
    · rw [Int.compare_eq_lt.2 q]; rfl
    · rw [Int.compare_eq_eq.2 q]; rfl
  obtain ⟨N, hN⟩ : ∃ N, stepsRaw lo hi step = N := ⟨_, rfl⟩
  have hS := stepsRaw_stop lo hi step N hN
  unfold stepsE at h
  unfold stepsN
  rw [hb, hN] at h ⊢
  simp only [Bool.false_eq_true, if_false] at h ⊢
  clear hN
  rcases Nat.lt_or_ge 10001 N with z | z
  · rw [if_pos z] at h; omega
  · rw [if_neg (by omega)]
    rcases Nat.eq_zero_or_pos N with e | e
    · subst e
      have := hS (by omega)
      rw [hle] at this; cases this
    · exact e
set_option maxHeartbeats 2000000 in
theorem rnear_good (lo hi step x : Nat) (w : World) (h : stepsE lo hi step = 0) (hc : clampE x lo hi = 0) : Calls Try.prog 25 #[.float .f64 lo, .float .f64 hi, .float .f64 step, .float .f64 x] w fun e w' => e = .returned (.tuple #[.int .i64 ((nearS (clampX x lo hi) (upto lo step (stepsN lo hi step))).1 : Nat), .int .i64 0]) ∧ Below w.heap.size w w' := by
  have HV := Lib.hid (fun W => rvalues lo hi step W)
  have HN1 := Lib.hid (steps_pos h)
  have HNN := Lib.hid (fun i => @steps_lt lo hi step i)
  have hx : isNan x = false := by
    unfold clampE at hc
    cases hb : clampBad x lo hi
    · simp only [clampBad, Bool.or_eq_false_iff] at hb; exact hb.1
    · rw [hb] at hc; simp at hc
  have ho := ord_num hx
  have FX := Lib.hid (clamp_fin (steps_ok_fin h).1 (steps_ok_fin h).2.1 hc)
  have HCL := Lib.hid (fun W => clamp_walk 10 (.inr rfl) x lo hi W)
  rw [hc] at HCL
  have HL := Lib.hid (steps_fin (steps_pos h)).2.2.2
  obtain ⟨c, hcx⟩ : ∃ c, clampX x lo hi = c := ⟨_, rfl⟩
  rw [hcx] at HCL FX ⊢
  have H := Lib.hid h
  unfold GivesVals at HV
  obtain ⟨N, hN⟩ : ∃ N, stepsN lo hi step = N := ⟨_, rfl⟩
  rw [hN] at HV HN1 HNN HL ⊢
  clear h hx hc hcx hN
  go_enter Try.func25, Try.ntmps25
  go_wp2_with (first | (go_at_call 27; refine (HV.out _).mono ?_; rintro e w' (⟨h0, v, rfl, hO, hB⟩ | ⟨he, _, rfl, hB⟩); rotate_left; (have := H.out; omega); (obtain ⟨x, cap, rfl⟩ := owns_slice hO); (obtain ⟨g, rfl, hg1, hg2, hc⟩ := owns_cell hO HN1.out); have HC := Lib.hid hc; have HB := Lib.hid hB; clear hB hO h0 hc hg1) | (go_at_call 10; refine (HCL.out _).mono ?_; rintro e w2 ⟨rfl, rfl⟩))
  go_loopw [12, 13] (fun b i wr => ∃ k bb : Nat, 1 ≤ k ∧ k ≤ N ∧ bb < k ∧ b = .int .i64 (bb : Int) ∧ i = .int .i64 (k : Int) ∧ Hid ((nearS c (upto lo step k)).1 = bb) ∧ Hid (∃ m, wr = w'.drewN m)) (fun _ i _ => N - (intOf i).toNat)
  case atStart => exact ⟨1, 0, by omega, HN1.out, by omega, rfl, rfl, Lib.hid (Nat.le_zero.1 (near_inv (lo := lo) (step := step) FX.out 0 (fun i hi => HNN.out i (by have := HN1.out; omega))).1), Lib.hid ⟨0, rfl⟩⟩
  case round =>
    obtain ⟨k, bb, hk1, hk, hbk, rfl, rfl, HS, HW⟩ := hrel
    have hbN : bb < N := by omega
    by_cases hlt : k < N
    · have hck : wr.cell? ⟨g, k, none⟩ = some (.float .f64 (valB lo step k)) := by
        obtain ⟨m, rfl⟩ := HW.out
        have := HC.out k hlt
        simpa [go_sem] using this
      have hcb : wr.cell? ⟨g, bb, none⟩ = some (.float .f64 (valB lo step bb)) := by
        obtain ⟨m, rfl⟩ := HW.out
        have := HC.out bb (by omega)
        simpa [go_sem] using this
      have VK := Lib.hid (HNN.out k hlt)
      have VB := Lib.hid (HNN.out bb (by omega))
      have IV := Lib.hid (near_inv (lo := lo) (step := step) FX.out (k - 1) (fun i hi => HNN.out i (by omega)))
      rw [Nat.sub_add_cancel hk1, HS.out] at IV
      have HT := Lib.hid (ltB_ap FX.out VK.out VB.out)
      cases hl : ltB (apB c (valB lo step k)) (apB c (valB lo step bb))
      all_goals
        have ht := lt_test _ hl
        have HLT := Lib.hid hl
        have HK := Lib.hid hlt
        clear hl
        go_wp2
        go_quiet ((go_at_call 48; first | (with_reducible exact quiet_sym (rapart c (valB lo step k) FX.out VK.out _)) | (with_reducible exact quiet_sym (rapart c (valB lo step bb) FX.out VB.out _))))
        have hkb : k ≤ 10001 := by have := HK.out; have := HL.out; omega
        go_wp2
        go_roundw
        case rel =>
          have := HK.out
          obtain ⟨m, rfl⟩ := HW.out
          refine ⟨k + 1, _, by omega, by omega, ?_, rfl, by go_num, ?_, Lib.hid ⟨m + nq, World.drewN_drewN _ _ _⟩⟩
          · omega
          · refine Lib.hid ?_
            rw [upto_succ, nearS_snoc]
            have e1 := HT.out
            rw [HLT.out] at e1
            have e2 := IV.out.2
            unfold near1
            dsimp only
            rw [e2, ← e1]
            first | exact HS.out | rfl
        case measure => have := HK.out; simp [intOf]; omega
    · obtain rfl : k = N := by omega
      have HBB := Lib.hid HS.out
      go_wp2
      go_ret2
      obtain ⟨m, rfl⟩ := HW.out
      exact ⟨by rw [HS.out]; rfl, below_drewN HB.out _⟩
theorem rnear (lo hi step x : Nat) (w : World) : Calls Try.prog 25 #[.float .f64 lo, .float .f64 hi, .float .f64 step, .float .f64 x] w fun e w' => e = .returned (.tuple #[.int .i64 (nearN lo hi step x), .int .i64 (nearE lo hi step x)]) ∧ Below w.heap.size w w' := by
  unfold nearN nearE
  by_cases h : stepsE lo hi step = 0
  · by_cases hc : clampE x lo hi = 0
    · simp only [h, hc, if_true]; exact rnear_good lo hi step x w h hc
    · simp only [h, hc, if_true, if_false]
      refine rnear_nan lo hi step x w h ?_
      obtain ⟨f1, f2, f3⟩ := steps_ok_fin h
      cases hx : isNan x
      · exfalso
        apply hc
        have hs : ¬ sv hi < sv lo := by
          cases hb : stepsBad lo hi step
          · simp only [stepsBad, Bool.or_eq_false_iff, decide_eq_false_iff_not] at hb; exact hb.2.2.2.1
          · unfold stepsE at h; rw [hb] at h; simp at h
        unfold clampE
        have : clampBad x lo hi = false := by simp only [clampBad, hx, fin_num f1, fin_num f2, Bool.false_or, decide_eq_false_iff_not]; exact hs
        rw [this]; rfl
      · rfl
  · simp only [h, if_false]; exact rnear_bad lo hi step x w h
end Go.Proofs.Ytepjdnokkgmhoaa
