/- Walks: finite numbers; a place's value; how many places. -/
import Derived.Test.YtepjdnokkgmhoaaC1
import Derived.Test.YtepjdnokkgmhoaaFin
namespace Go.Proofs.Ytepjdnokkgmhoaa
open Go.RowKit
def maxF : Nat := 9218868437227405311
def minF : Nat := 18442240474082181119
theorem nan_max : isNan maxF = false := by decide
theorem nan_min : isNan minF = false := by decide
theorem rung_max : rung maxF = 2047 * 2 ^ 52 - 1 := by decide
theorem rung_min : rung minF = 2047 * 2 ^ 52 - 1 := by decide
theorem neg_max : isNeg maxF = false := by decide
theorem neg_min : isNeg minF = true := by decide
theorem valN_top : valN (2047 * 2 ^ 52 - 1) < valN (2047 * 2 ^ 52) := valN_lt (by decide)
/-- The two tests by which a number is finite. -/
theorem fin_tests (x : Nat) : (finB x = true → (FloatKind.f64.format.order x 18442240474082181119 == some .gt || FloatKind.f64.format.order x 18442240474082181119 == some .eq) = true ∧ (FloatKind.f64.format.order x 9218868437227405311 == some .lt || FloatKind.f64.format.order x 9218868437227405311 == some .eq) = true) ∧
    (finB x = false → (FloatKind.f64.format.order x 18442240474082181119 == some .gt || FloatKind.f64.format.order x 18442240474082181119 == some .eq) = false ∨ ((FloatKind.f64.format.order x 18442240474082181119 == some .gt || FloatKind.f64.format.order x 18442240474082181119 == some .eq) = true ∧ (FloatKind.f64.format.order x 9218868437227405311 == some .lt || FloatKind.f64.format.order x 9218868437227405311 == some .eq) = false)) := by
  show (finB x = true → (FloatKind.f64.format.order x minF == some .gt || FloatKind.f64.format.order x minF == some .eq) = true ∧ (FloatKind.f64.format.order x maxF == some .lt || FloatKind.f64.format.order x maxF == some .eq) = true) ∧
    (finB x = false → (FloatKind.f64.format.order x minF == some .gt || FloatKind.f64.format.order x minF == some .eq) = false ∨ ((FloatKind.f64.format.order x minF == some .gt || FloatKind.f64.format.order x minF == some .eq) = true ∧ (FloatKind.f64.format.order x maxF == some .lt || FloatKind.f64.format.order x maxF == some .eq) = false))
  have vmax : sv maxF = valN (2047 * 2 ^ 52 - 1) := by unfold sv; rw [neg_max, rung_max]; rfl
  have vmin : sv minF = -(valN (2047 * 2 ^ 52 - 1) : Int) := by unfold sv; rw [neg_min, rung_min]; rfl
  have vt := valN_top
  generalize hT : valN (2047 * 2 ^ 52 - 1) = T at *
  constructor
  · intro h
    have hn := fin_num h
    have hv : valN (rung x) ≤ T := by rw [← hT]; exact valN_le (by simp only [finB, decide_eq_true_eq] at h; omega)
    have hs : -(T : Int) ≤ sv x ∧ sv x ≤ T := by unfold sv; split <;> omega
    constructor
    · rcases ord_cases hn nan_min with ⟨k, r⟩ | ⟨k, r⟩ | ⟨k, r⟩
      · omega
      · rw [r]; rfl
      · rw [r]; rfl
    · rcases ord_cases hn nan_max with ⟨k, r⟩ | ⟨k, r⟩ | ⟨k, r⟩
      · rw [r]; rfl
      · rw [r]; rfl
      · omega
  · intro h
    cases hn : isNan x
    · have hr : rung x = 2047 * 2 ^ 52 := by simp only [finB, isNan, decide_eq_false_iff_not] at h hn; omega
      have hs : sv x = if isNeg x then -(valN (2047 * 2 ^ 52) : Int) else valN (2047 * 2 ^ 52) := by unfold sv; rw [hr]
      generalize valN (2047 * 2 ^ 52) = U at *
      cases hg : isNeg x
      · rw [hg] at hs; simp only [Bool.false_eq_true, if_false] at hs
        right
        constructor
        · rcases ord_cases hn nan_min with ⟨k, r⟩ | ⟨k, r⟩ | ⟨k, r⟩
          · omega
          · rw [r]; rfl
          · rw [r]; rfl
        · rcases ord_cases hn nan_max with ⟨k, r⟩ | ⟨k, r⟩ | ⟨k, r⟩
          · omega
          · omega
          · rw [r]; rfl
      · rw [hg] at hs; simp only [if_true] at hs
        left
        rcases ord_cases hn nan_min with ⟨k, r⟩ | ⟨k, r⟩ | ⟨k, r⟩
        · rw [r]; rfl
        · omega
        · omega
    · left
      have : FloatKind.f64.format.order x minF = none := order_nan _ _ (.inl hn)
      rw [this]; rfl
set_option maxHeartbeats 400000 in
theorem tfinite (x : Nat) (w : World) : Calls Try.prog 43 #[.float .f64 x] w fun e w' => e = .returned (.bool (finB x)) ∧ w = w' := by
  obtain ⟨ht, hf⟩ := fin_tests x
  cases h : finB x
  · rcases hf h with h1 | ⟨h1, h2⟩
    · clear ht hf h
      go_enter Try.func43, Try.ntmps43; go_wp2; go_ret; exact ⟨rfl, rfl⟩
    · clear ht hf h
      go_enter Try.func43, Try.ntmps43; go_wp2; go_ret; exact ⟨rfl, rfl⟩
  · obtain ⟨h1, h2⟩ := ht h
    clear ht hf h
    go_enter Try.func43, Try.ntmps43; go_wp2; go_ret; exact ⟨rfl, rfl⟩
set_option maxHeartbeats 400000 in
theorem rfinite (x : Nat) (w : World) : Calls Try.prog 49 #[.float .f64 x] w fun e w' => e = .returned (.bool (finB x)) ∧ w = w' := by
  obtain ⟨ht, hf⟩ := fin_tests x
  cases h : finB x
  · rcases hf h with h1 | ⟨h1, h2⟩
    · clear ht hf h
      go_enter Try.func49, Try.ntmps49; go_wp2; go_ret; exact ⟨rfl, rfl⟩
    · clear ht hf h
      go_enter Try.func49, Try.ntmps49; go_wp2; go_ret; exact ⟨rfl, rfl⟩
  · obtain ⟨h1, h2⟩ := ht h
    clear ht hf h
    go_enter Try.func49, Try.ntmps49; go_wp2; go_ret; exact ⟨rfl, rfl⟩
set_option maxHeartbeats 400000 in
theorem tvalue (lo step : Nat) (k : Nat) (hl : finB lo = true) (hs : finB step = true) (hk : k < 2 ^ 53) (w : World) : Calls Try.prog 44 #[.float .f64 lo, .float .f64 step, .int .i64 k] w fun e w' => e = .returned (.float .f64 (valB lo step k)) ∧ w = w' := by
  have h1 : floatBits .mul .f64 (floatOfInt .f64 k) step = some (prodB step k) := (prodB_eq step k hs hk).1
  have h2 : floatBits .add .f64 lo (prodB step k) = some (valB lo step k) := (valB_eq lo step k hl hs hk).1
  have m := fun w' : World => run_float_arith (P := Try.prog) w' .mul 22 .f64 _ _ _ h1
  have a := fun w' : World => run_float_arith (P := Try.prog) w' .add 22 .f64 _ _ _ h2
  clear h1 h2 hl hs hk
  go_enter Try.func44, Try.ntmps44; go_wp2; go_ret; exact ⟨rfl, rfl⟩
set_option maxHeartbeats 400000 in
theorem rvalue (lo step : Nat) (k : Nat) (hl : finB lo = true) (hs : finB step = true) (hk : k < 2 ^ 53) (w : World) : Calls Try.prog 50 #[.float .f64 lo, .float .f64 step, .int .i64 k] w fun e w' => e = .returned (.float .f64 (valB lo step k)) ∧ w = w' := by
  have h1 : floatBits .mul .f64 (floatOfInt .f64 k) step = some (prodB step k) := (prodB_eq step k hs hk).1
  have h2 : floatBits .add .f64 lo (prodB step k) = some (valB lo step k) := (valB_eq lo step k hl hs hk).1
  have m := fun w' : World => run_float_arith (P := Try.prog) w' .mul 22 .f64 _ _ _ h1
  have a := fun w' : World => run_float_arith (P := Try.prog) w' .add 22 .f64 _ _ _ h2
  clear h1 h2 hl hs hk
  go_enter Try.func50, Try.ntmps50; go_wp2; go_ret; exact ⟨rfl, rfl⟩
end Go.Proofs.Ytepjdnokkgmhoaa
