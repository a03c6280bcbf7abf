/- Keys of floats: plain. -/
import Derived.Test.YtepjdnokkgmhoaaOrd
namespace Go.Proofs.Ytepjdnokkgmhoaa
def keyN (x : Nat) : Nat := if isNan x then 18446744073709551615 else if x < 9223372036854775808 then x + 9223372036854775808 else 18446744073709551615 - x
def ofB (k : Nat) : Nat := if k < 9223372036854775808 then 18446744073709551615 - k else k - 9223372036854775808
theorem keyN_lt (x : Nat) (h : x < 2 ^ 64) : keyN x < 2 ^ 64 := by unfold keyN; split <;> (try split) <;> omega
theorem ofB_lt (k : Nat) (h : k < 2 ^ 64) : ofB k < 2 ^ 64 := by unfold ofB; split <;> omega
theorem rung_of (x : Nat) (h : x < 2 ^ 64) : rung x = if x < 2 ^ 63 then x else x - 2 ^ 63 := by unfold rung; split <;> omega
theorem isNeg_of (x : Nat) (h : x < 2 ^ 64) : isNeg x = decide (2 ^ 63 ≤ x) := by
  unfold isNeg
  rw [Bool.eq_iff_iff]
  simp only [beq_iff_eq, decide_eq_true_eq]
  omega
theorem keyN_num (x : Nat) (h : x < 2 ^ 64) (hn : isNan x = false) : keyN x < 18446744073709551614 := by
  have hr : rung x ≤ 2047 * 2 ^ 52 := by simpa [isNan] using hn
  rw [rung_of x h] at hr
  unfold keyN
  rw [hn]
  simp only [Bool.false_eq_true, if_false]
  split <;> split at hr <;> omega
theorem ofB_key (x : Nat) (h : x < 2 ^ 64) (hn : isNan x = false) : ofB (keyN x) = x := by
  unfold ofB keyN
  rw [hn]
  simp only [Bool.false_eq_true, if_false]
  split <;> split <;> omega
theorem ofB_greatest : isNan (ofB 18446744073709551615) = true := by decide
theorem key_ofB (k : Nat) (h : k < 2 ^ 64) (hn : isNan (ofB k) = false) : keyN (ofB k) = k := by
  unfold keyN
  rw [hn]
  unfold ofB
  simp only [Bool.false_eq_true, if_false]
  split <;> split <;> omega
theorem key_nan (x : Nat) (h : isNan x = true) : keyN x = 18446744073709551615 := by simp [keyN, h]
theorem key_of_key (x : Nat) (h : x < 2 ^ 64) : keyN (ofB (keyN x)) = keyN x := by
  cases hn : isNan x
  · rw [ofB_key x h hn]
  · rw [key_nan x hn, key_nan _ ofB_greatest]
theorem key_lt_of_sv {x y : Nat} (hx : x < 2 ^ 64) (hy : y < 2 ^ 64) (nx : isNan x = false) (ny : isNan y = false) (h : sv x < sv y) : keyN x < keyN y := by
  have rx := rung_of x hx
  have ry := rung_of y hy
  unfold sv at h
  rw [isNeg_of x hx, isNeg_of y hy] at h
  unfold keyN
  rw [nx, ny]
  simp only [Bool.false_eq_true, if_false]
  by_cases h1 : x < 2 ^ 63
  · by_cases h2 : y < 2 ^ 63
    · rw [if_pos h1] at rx; rw [if_pos h2] at ry
      rw [if_neg (by simp; omega), if_neg (by simp; omega), rx, ry] at h
      have : x < y := by
        rcases Nat.lt_or_ge x y with q | q
        · exact q
        · have := valN_le q; omega
      rw [if_pos (by omega), if_pos (by omega)]; omega
    · rw [if_neg (by simp; omega), if_pos (by simp; omega)] at h
      omega
  · by_cases h2 : y < 2 ^ 63
    · rw [if_neg (by omega), if_pos (by omega)]; omega
    · rw [if_neg h1] at rx; rw [if_neg h2] at ry
      rw [if_pos (by simp; omega), if_pos (by simp; omega), rx, ry] at h
      have : y < x := by
        rcases Nat.lt_or_ge y x with q | q
        · exact q
        · have := valN_le (show x - 2 ^ 63 ≤ y - 2 ^ 63 by omega); omega
      rw [if_neg (by omega), if_neg (by omega)]; omega
theorem sv_eq_zero_or {x y : Nat} (hx : x < 2 ^ 64) (hy : y < 2 ^ 64) (nx : isNan x = false) (ny : isNan y = false) (h : keyN x < keyN y) : sv x < sv y ∨ (sv x = 0 ∧ sv y = 0) := by
  have rx := rung_of x hx
  have ry := rung_of y hy
  unfold keyN at h
  rw [nx, ny] at h
  simp only [Bool.false_eq_true, if_false] at h
  unfold sv
  rw [isNeg_of x hx, isNeg_of y hy]
  by_cases h1 : x < 2 ^ 63
  · rw [if_pos (by omega)] at h
    by_cases h2 : y < 2 ^ 63
    · rw [if_pos (by omega)] at h
      rw [if_pos h1] at rx; rw [if_pos h2] at ry
      rw [if_neg (by simp; omega), if_neg (by simp; omega), rx, ry]
      have := valN_lt (show x < y by omega); omega
    · rw [if_neg (by omega)] at h; omega
  · rw [if_neg (by omega)] at h
    by_cases h2 : y < 2 ^ 63
    · rw [if_pos (by simp; omega), if_neg (by simp; omega)]; omega
    · rw [if_neg (by omega)] at h
      rw [if_neg h1] at rx; rw [if_neg h2] at ry
      rw [if_pos (by simp; omega), if_pos (by simp; omega), rx, ry]
      have := valN_lt (show y - 2 ^ 63 < x - 2 ^ 63 by omega); omega
end Go.Proofs.Ytepjdnokkgmhoaa
