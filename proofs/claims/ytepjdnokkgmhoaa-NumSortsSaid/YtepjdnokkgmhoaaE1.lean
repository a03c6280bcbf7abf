/- Plain: the place nearest to a place's value has that value; values never fall. -/
import Derived.Test.YtepjdnokkgmhoaaD10
namespace Go.Proofs.Ytepjdnokkgmhoaa
open Go.RowKit Go.Shelf
theorem near_min {x lo step : Nat} (hx : finB x = true) : ∀ k : Nat, (∀ i, i ≤ k → isNan (valB lo step i) = false) → ∀ i, i ≤ k → (nearS x (upto lo step (k + 1))).2 ≤ distB x (valB lo step i) := by
  intro k
  induction k with
  | zero =>
    intro hv i hi
    obtain ⟨h1, h2⟩ := near_inv (lo := lo) (step := step) hx 0 hv
    rw [h2, Nat.le_zero.1 h1, Nat.le_zero.1 hi]
    exact Nat.le_refl _
  | succ k ih =>
    intro hv i hi
    obtain ⟨i1, i2⟩ := near_inv (lo := lo) (step := step) hx k (fun j hj => hv j (by omega))
    have ih' := ih (fun j hj => hv j (by omega))
    rw [upto_succ, nearS_snoc]
    unfold near1
    dsimp only
    have ht := ltB_dist (x := x) (v := valB lo step (k + 1)) (u := valB lo step (nearS x (upto lo step (k + 1))).1) hx (hv _ (Nat.le_refl _)) (hv _ (by omega))
    rw [← i2] at ht
    rw [ht]
    by_cases hq : distB x (valB lo step (k + 1)) < (nearS x (upto lo step (k + 1))).2
    · rw [if_pos (decide_eq_true hq)]
      dsimp only
      rcases Nat.lt_or_ge k i with z | z
      · obtain rfl : i = k + 1 := by omega
        exact Nat.le_refl _
      · have := ih' i z; omega
    · rw [if_neg (by simpa using hq)]
      rcases Nat.lt_or_ge k i with z | z
      · obtain rfl : i = k + 1 := by omega
        omega
      · exact ih' i z
theorem dist_rung {x v : Nat} (hx : finB x = true) (hv : finB v = true) : distB x v = R0 (sv x - sv v) := by
  obtain ⟨r, h1, h2, _⟩ := sub_sv hx hv
  unfold distB subB
  rw [h1]; exact h2
theorem leB_sv {a b : Nat} (ha : isNan a = false) (hb : isNan b = false) (h : leB a b = true) : sv a ≤ sv b := by
  unfold leB at h
  rw [order_val a b ha hb] at h
  rcases Int.lt_trichotomy (sv a) (sv b) with q | q | q
  · omega
  · omega
  · rw [Int.compare_eq_gt.2 q] at h; cases h
theorem step_facts {lo hi step : Nat} (h : stepsE lo hi step = 0) : finB lo = true ∧ finB hi = true ∧ finB step = true ∧ 0 < sv step ∧ sv lo ≤ sv hi ∧ stepsN lo hi step ≤ 10001 ∧ 0 < stepsN lo hi step ∧ ∀ i, i < stepsN lo hi step → sv (valB lo step i) ≤ sv hi ∧ isNan (valB lo step i) = false := by
  have hp := steps_pos h
  obtain ⟨f1, f3, f2, hle⟩ := steps_fin hp
  have hs := h
  unfold stepsE at hs
  cases hb : stepsBad lo hi step
  case true => rw [hb] at hs; simp at hs
  have g := hb
  simp only [stepsBad, Bool.or_eq_false_iff, Bool.not_eq_false', decide_eq_false_iff_not] at g
  refine ⟨f1, f2, f3, by omega, by omega, hle, hp, fun i hi => ?_⟩
  have hn := steps_lt lo _ step hi
  refine ⟨?_, hn⟩
  have hall := stepsRaw_all lo _ step i (by
    unfold stepsN at hi
    rw [hb] at hi
    simp only [Bool.false_eq_true, if_false] at hi
    split at hi
    · omega
    · exact hi)
  exact leB_sv hn (fin_num f2) hall
theorem val_fin {lo hi step i : Nat} (h : stepsE lo hi step = 0) (hi' : i < stepsN lo hi step) : finB (valB lo step i) = true ∧ sv lo ≤ sv (valB lo step i) := by
  obtain ⟨f1, f2, f3, hp, _, hle, _, ha⟩ := step_facts h
  have hg := val_ge lo step i f1 f3 hp (by omega)
  exact ⟨fin_of_sv f1 f2 hg (ha i hi').1, hg⟩
theorem ladder_back {lo hi step k : Nat} (h : stepsE lo hi step = 0) (hk : k < stepsN lo hi step) : nearE lo hi step (valB lo step k) = 0 ∧ ∃ bb : Nat, nearN lo hi step (valB lo step k) = (bb : Int) ∧ bb < stepsN lo hi step ∧ sv (valB lo step bb) = sv (valB lo step k) ∧ isNan (valB lo step bb) = false ∧ isNan (valB lo step k) = false := by
  obtain ⟨f1, f2, f3, hp, hlh, hle, hpos, ha⟩ := step_facts h
  obtain ⟨vf, vg⟩ := val_fin h hk
  have vn := (ha k hk).2
  have hcb : clampBad (valB lo step k) lo hi = false := by
    simp only [clampBad, vn, fin_num f1, fin_num f2, Bool.false_or, decide_eq_false_iff_not]; omega
  have hce : clampE (valB lo step k) lo hi = 0 := by unfold clampE; rw [hcb]; rfl
  have hcx : clampX (valB lo step k) lo hi = valB lo step k := by
    unfold clampX
    rw [hcb]
    simp only [Bool.false_eq_true, if_false]
    rw [if_neg (by omega), if_neg (by have := (ha k hk).1; omega)]
  unfold nearE nearN
  rw [h, hce, hcx]
  simp only [if_true]
  obtain ⟨M, hM⟩ : ∃ M, stepsN lo hi step = M + 1 := ⟨stepsN lo hi step - 1, by omega⟩
  rw [hM] at ha hk ⊢
  obtain ⟨i1, i2⟩ := near_inv (lo := lo) (step := step) vf M (fun i hi => (ha i (by omega)).2)
  have hmin := near_min (lo := lo) (step := step) vf M (fun i hi => (ha i (by omega)).2) k (by omega)
  refine ⟨trivial, _, rfl, by omega, ?_, (ha _ (by omega)).2, vn⟩
  have hbf := (val_fin h (i := (nearS (valB lo step k) (upto lo step (M + 1))).1) (by rw [hM]; omega)).1
  rw [i2, dist_rung vf hbf, dist_rung vf vf, Int.sub_self, R0_of_zero] at hmin
  have := R0_zero (Nat.le_zero.1 hmin)
  omega
theorem values_dich (lo hi step : Nat) : (stepsE lo hi step = 0) ∨ (stepsE lo hi step = 180 ∧ stepsN lo hi step = 0) := by
  unfold stepsE stepsN
  cases stepsBad lo hi step
  · simp only [Bool.false_eq_true, if_false]
    split
    · exact .inr ⟨rfl, rfl⟩
    · exact .inl rfl
  · exact .inr ⟨rfl, rfl⟩
theorem falls_not {lo hi step i : Nat} (h : stepsE lo hi step = 0) (hi' : i < stepsN lo hi step) : ltB (valB lo step i) (valB lo step (i - 1)) = false := by
  obtain ⟨f1, f2, f3, hp, hlh, hle, hpos, ha⟩ := step_facts h
  rw [ltB_sv (ha i hi').2 (ha (i - 1) (by omega)).2, decide_eq_false_iff_not]
  have := val_mono lo step f1 f3 hp (Nat.sub_le i 1) (by omega)
  omega
end Go.Proofs.Ytepjdnokkgmhoaa
