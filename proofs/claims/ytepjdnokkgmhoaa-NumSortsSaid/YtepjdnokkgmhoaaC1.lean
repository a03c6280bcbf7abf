/- Walks: numbers held between two; finite ones. -/
import Derived.Test.YtepjdnokkgmhoaaK2
namespace Go.Proofs.Ytepjdnokkgmhoaa
open Go.RowKit
theorem ord_val {a b : Nat} (ha : isNan a = false) (hb : isNan b = false) : FloatKind.f64.format.order a b = some (compare (sv a) (sv b)) := order_val a b ha hb
theorem ord_cases {a b : Nat} (ha : isNan a = false) (hb : isNan b = false) :
    (sv a < sv b ∧ FloatKind.f64.format.order a b = some .lt) ∨ (sv a = sv b ∧ FloatKind.f64.format.order a b = some .eq) ∨ (sv b < sv a ∧ FloatKind.f64.format.order a b = some .gt) := by
  rw [ord_val ha hb]
  rcases Int.lt_trichotomy (sv a) (sv b) with h | h | h
  · exact .inl ⟨h, by rw [Int.compare_eq_lt.2 h]⟩
  · exact .inr (.inl ⟨h, by rw [h]; simp⟩)
  · exact .inr (.inr ⟨h, by rw [Int.compare_eq_gt.2 h]⟩)
def clampBad (x lo hi : Nat) : Bool := isNan x || (isNan lo || (isNan hi || decide (sv hi < sv lo)))
def clampX (x lo hi : Nat) : Nat := if clampBad x lo hi then 0 else if sv x < sv lo then lo else if sv hi < sv x then hi else x
def clampE (x lo hi : Nat) : Int := if clampBad x lo hi then 180 else 0
theorem clamp_walk (f : Nat) (hf : f = 9 ∨ f = 10) (x lo hi : Nat) (w : World) : Calls Try.prog f #[.float .f64 x, .float .f64 lo, .float .f64 hi] w fun e w' => e = .returned (.tuple #[.float .f64 (clampX x lo hi), .int .i64 (clampE x lo hi)]) ∧ w = w' := by
  cases hx : isNan x
  case true =>
    have e1 : clampX x lo hi = 0 := by simp [clampX, clampBad, hx]
    have e2 : clampE x lo hi = 180 := by simp [clampE, clampBad, hx]
    rw [e1, e2]
    have ho := ord_nan hx
    clear e1 e2 hx
    rcases hf with rfl | rfl
    · go_enter Try.func9, Try.ntmps9; go_wp2; go_ret2; exact ⟨rfl, rfl⟩
    · go_enter Try.func10, Try.ntmps10; go_wp2; go_ret2; exact ⟨rfl, rfl⟩
  case false =>
  cases hl : isNan lo
  case true =>
    have e1 : clampX x lo hi = 0 := by simp [clampX, clampBad, hl]
    have e2 : clampE x lo hi = 180 := by simp [clampE, clampBad, hl]
    rw [e1, e2]
    have ho := ord_num hx
    have hp := ord_nan hl
    clear e1 e2 hx hl
    rcases hf with rfl | rfl
    · go_enter Try.func9, Try.ntmps9; go_wp2; go_ret2; exact ⟨rfl, rfl⟩
    · go_enter Try.func10, Try.ntmps10; go_wp2; go_ret2; exact ⟨rfl, rfl⟩
  case false =>
  cases hh : isNan hi
  case true =>
    have e1 : clampX x lo hi = 0 := by simp [clampX, clampBad, hh]
    have e2 : clampE x lo hi = 180 := by simp [clampE, clampBad, hh]
    rw [e1, e2]
    have ho := ord_num hx
    have hp := ord_num hl
    have hq := ord_nan hh
    clear e1 e2 hx hl hh
    rcases hf with rfl | rfl
    · go_enter Try.func9, Try.ntmps9; go_wp2; go_ret2; exact ⟨rfl, rfl⟩
    · go_enter Try.func10, Try.ntmps10; go_wp2; go_ret2; exact ⟨rfl, rfl⟩
  case false =>
  have ho := ord_num hx
  have hp := ord_num hl
  have hq := ord_num hh
  by_cases hb : sv hi < sv lo
  · have e1 : clampX x lo hi = 0 := by simp [clampX, clampBad, hb]
    have e2 : clampE x lo hi = 180 := by simp [clampE, clampBad, hb]
    rw [e1, e2]
    rcases ord_cases hl hh with ⟨h, r⟩ | ⟨h, r⟩ | ⟨h, r⟩
    · omega
    · omega
    clear e1 e2 hx hl hh hb h
    rcases hf with rfl | rfl
    · go_enter Try.func9, Try.ntmps9; go_wp2; go_ret2; exact ⟨rfl, rfl⟩
    · go_enter Try.func10, Try.ntmps10; go_wp2; go_ret2; exact ⟨rfl, rfl⟩
  · have e2 : clampE x lo hi = 0 := by simp [clampE, clampBad, hx, hl, hh, hb]
    have e1 : clampX x lo hi = if sv x < sv lo then lo else if sv hi < sv x then hi else x := by simp [clampX, clampBad, hx, hl, hh, hb]
    rw [e2]
    have hng : ∀ c, FloatKind.f64.format.order lo hi = some c → (c = .lt ∨ c = .eq) := by
      intro c hc
      rcases ord_cases hl hh with ⟨h, r⟩ | ⟨h, r⟩ | ⟨h, r⟩
      · rw [r] at hc; cases hc; exact .inl rfl
      · rw [r] at hc; cases hc; exact .inr rfl
      · omega
    rcases ord_cases hl hh with ⟨h, r⟩ | ⟨h, r⟩ | ⟨h, r⟩
    case inr.inr => omega
    all_goals
      clear h hb hng
      rcases ord_cases hx hl with ⟨h, s⟩ | ⟨h, s⟩ | ⟨h, s⟩
      · rw [if_pos h] at e1
        rw [e1]
        clear e1 h hx hl hh
        rcases hf with rfl | rfl
        · go_enter Try.func9, Try.ntmps9; go_wp2; go_ret2; exact ⟨rfl, rfl⟩
        · go_enter Try.func10, Try.ntmps10; go_wp2; go_ret2; exact ⟨rfl, rfl⟩
      all_goals
        rw [if_neg (by omega)] at e1
        rcases ord_cases hx hh with ⟨k, t⟩ | ⟨k, t⟩ | ⟨k, t⟩
        · rw [if_neg (by omega)] at e1
          rw [e1]
          clear e1 h hx hl hh k
          rcases hf with rfl | rfl
          · go_enter Try.func9, Try.ntmps9; go_wp2; go_ret2; exact ⟨rfl, rfl⟩
          · go_enter Try.func10, Try.ntmps10; go_wp2; go_ret2; exact ⟨rfl, rfl⟩
        · rw [if_neg (by omega)] at e1
          rw [e1]
          clear e1 h hx hl hh k
          rcases hf with rfl | rfl
          · go_enter Try.func9, Try.ntmps9; go_wp2; go_ret2; exact ⟨rfl, rfl⟩
          · go_enter Try.func10, Try.ntmps10; go_wp2; go_ret2; exact ⟨rfl, rfl⟩
        · rw [if_pos (by omega)] at e1
          rw [e1]
          clear e1 h hx hl hh k
          rcases hf with rfl | rfl
          · go_enter Try.func9, Try.ntmps9; go_wp2; go_ret2; exact ⟨rfl, rfl⟩
          · go_enter Try.func10, Try.ntmps10; go_wp2; go_ret2; exact ⟨rfl, rfl⟩
end Go.Proofs.Ytepjdnokkgmhoaa
