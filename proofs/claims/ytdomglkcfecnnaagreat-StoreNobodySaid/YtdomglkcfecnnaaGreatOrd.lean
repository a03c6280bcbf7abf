/- Floats as whole numbers in their order: plain. -/
import Derived.Laws.FloatArith
namespace Go.Proofs.YtdomglkcfecnnaaGreat
open Ieee
/-- The magnitude of a rung, in units of the least one. -/
def valN (r : Nat) : Nat := if r < 2 ^ 52 then r else (2 ^ 52 + r % 2 ^ 52) * 2 ^ (r / 2 ^ 52 - 1)
def rung (x : Nat) : Nat := x % 2 ^ 63
def isNeg (x : Nat) : Bool := x / 2 ^ 63 % 2 == 1
def isNan (x : Nat) : Bool := decide (2047 * 2 ^ 52 < rung x)
def sv (x : Nat) : Int := if isNeg x then -(valN (rung x) : Int) else valN (rung x)

theorem valN_lt {r s : Nat} (h : r < s) : valN r < valN s := by
  have hp : 0 < 2 ^ 52 := by decide
  unfold valN
  by_cases hr : r < 2 ^ 52
  · rw [if_pos hr]
    by_cases hs : s < 2 ^ 52
    · rw [if_pos hs]; exact h
    · rw [if_neg hs]
      have h1 : (2 ^ 52 + s % 2 ^ 52) * 1 ≤ (2 ^ 52 + s % 2 ^ 52) * 2 ^ (s / 2 ^ 52 - 1) := Nat.mul_le_mul_left _ (Nat.one_le_two_pow)
      omega
  · rw [if_neg hr, if_neg (by omega)]
    have er : 1 ≤ r / 2 ^ 52 := (Nat.le_div_iff_mul_le hp).2 (by omega)
    have hd : r / 2 ^ 52 ≤ s / 2 ^ 52 := Nat.div_le_div_right (by omega)
    have mr := Nat.mod_lt r hp
    have ms := Nat.mod_lt s hp
    have dr := Nat.div_add_mod r (2 ^ 52)
    have ds := Nat.div_add_mod s (2 ^ 52)
    rcases Nat.lt_or_ge (r / 2 ^ 52) (s / 2 ^ 52) with hlt | hge
    · have h1 : (2 ^ 52 + r % 2 ^ 52) * 2 ^ (r / 2 ^ 52 - 1) < (2 ^ 52 + 2 ^ 52) * 2 ^ (r / 2 ^ 52 - 1) := Nat.mul_lt_mul_of_pos_right (by omega) (Nat.two_pow_pos _)
      have h2 : (2 ^ 52 + 2 ^ 52) * 2 ^ (r / 2 ^ 52 - 1) = 2 ^ 52 * 2 ^ (r / 2 ^ 52) := by
        obtain ⟨q, hq⟩ : ∃ q, r / 2 ^ 52 = q + 1 := ⟨r / 2 ^ 52 - 1, by omega⟩
        rw [hq, Nat.add_sub_cancel, Nat.pow_succ 2 q]
        rw [← Nat.two_mul, Nat.mul_comm 2 (2 ^ 52), Nat.mul_assoc, Nat.mul_comm 2 (2 ^ q)]
      have h3 : 2 ^ 52 * 2 ^ (r / 2 ^ 52) ≤ 2 ^ 52 * 2 ^ (s / 2 ^ 52 - 1) := Nat.mul_le_mul_left _ (Nat.pow_le_pow_right (by omega) (by omega))
      have h4 : 2 ^ 52 * 2 ^ (s / 2 ^ 52 - 1) ≤ (2 ^ 52 + s % 2 ^ 52) * 2 ^ (s / 2 ^ 52 - 1) := Nat.mul_le_mul_right _ (by omega)
      omega
    · have he : r / 2 ^ 52 = s / 2 ^ 52 := by omega
      rw [he] at dr ⊢
      exact Nat.mul_lt_mul_of_pos_right (by omega) (Nat.two_pow_pos _)
theorem valN_le {r s : Nat} (h : r ≤ s) : valN r ≤ valN s := by
  rcases Nat.lt_or_ge r s with h1 | h1
  · exact Nat.le_of_lt (valN_lt h1)
  · rw [show r = s by omega]; exact Nat.le_refl _
theorem valN_inj {r s : Nat} (h : valN r = valN s) : r = s := by
  rcases Nat.lt_trichotomy r s with h1 | h1 | h1
  · have := valN_lt h1; omega
  · exact h1
  · have := valN_lt h1; omega
theorem valN_zero : valN 0 = 0 := by simp [valN]

/-- What a word that is no NaN and no infinity stands for. -/
theorem read_fin (x : Nat) (h : rung x < 2047 * 2 ^ 52) : ∃ m i, double.read x = .number (isNeg x) m i ∧ double.leastPlace ≤ i ∧ m * 2 ^ (i - double.leastPlace).toNat = valN (rung x) := by
  unfold rung at h ⊢
  have hw : double.signWeight = 2 ^ 63 := by decide
  have hb : double.binade = 2 ^ 52 := by decide
  have hi : double.infRung = 2047 * 2 ^ 52 := by decide
  unfold Format.read isNeg valN
  simp only [hw, hb, hi]
  by_cases h1 : x % 2 ^ 63 < 2 ^ 52
  · rw [if_pos h1, if_pos h1]
    exact ⟨_, _, rfl, Int.le_refl _, by simp⟩
  · rw [if_neg h1, if_pos h, if_neg h1]
    refine ⟨_, _, rfl, by omega, ?_⟩
    congr 2
    omega
theorem read_inf (x : Nat) (h : rung x = 2047 * 2 ^ 52) : double.read x = .infinity (isNeg x) := by
  unfold rung at h
  have hw : double.signWeight = 2 ^ 63 := by decide
  have hb : double.binade = 2 ^ 52 := by decide
  have hi : double.infRung = 2047 * 2 ^ 52 := by decide
  unfold Format.read isNeg
  simp only [hw, hb, hi, h]
  rfl
theorem read_nan (x : Nat) (h : 2047 * 2 ^ 52 < rung x) : ∃ f, double.read x = .nan (isNeg x) f := by
  unfold rung at h
  have hw : double.signWeight = 2 ^ 63 := by decide
  have hb : double.binade = 2 ^ 52 := by decide
  have hi : double.infRung = 2047 * 2 ^ 52 := by decide
  unfold Format.read isNeg
  simp only [hw, hb, hi]
  rw [if_neg (by omega), if_neg (by omega), if_neg (by omega)]
  exact ⟨_, rfl⟩
theorem compare_scale (a b : Int) (c : Nat) (h : 0 < c) : compare (a * c) (b * c) = compare a b := by
  have hc : (0 : Int) < c := by omega
  rcases Int.lt_trichotomy a b with h1 | h1 | h1
  · rw [Int.compare_eq_lt.2 h1, Int.compare_eq_lt.2 (Int.mul_lt_mul_of_pos_right h1 hc)]
  · subst h1; simp
  · rw [Int.compare_eq_gt.2 h1, Int.compare_eq_gt.2 (Int.mul_lt_mul_of_pos_right h1 hc)]
theorem signed_scale (s : Bool) (m : Nat) (i base : Int) (h : base ≤ i) (hl : double.leastPlace ≤ base) :
    signed s m (i - base).toNat * ((2 ^ (base - double.leastPlace).toNat : Nat) : Int) = if s then -((m * 2 ^ (i - double.leastPlace).toNat : Nat) : Int) else ((m * 2 ^ (i - double.leastPlace).toNat : Nat) : Int) := by
  have e : (i - double.leastPlace).toNat = (i - base).toNat + (base - double.leastPlace).toNat := by omega
  have k : ((m <<< (i - base).toNat : Nat) : Int) * ((2 ^ (base - double.leastPlace).toNat : Nat) : Int) = ((m * 2 ^ (i - double.leastPlace).toNat : Nat) : Int) := by
    rw [e, Nat.shiftLeft_eq, ← Int.natCast_mul, Nat.mul_assoc, ← Nat.pow_add]
  unfold signed
  cases s
  · simpa using k
  · simp only [if_true]
    rw [Int.neg_mul, k]
theorem order_fin (x y : Nat) (hx : rung x < 2047 * 2 ^ 52) (hy : rung y < 2047 * 2 ^ 52) : double.order x y = some (compare (sv x) (sv y)) := by
  obtain ⟨m, i, h1, h2, h3⟩ := read_fin x hx
  obtain ⟨n, j, k1, k2, k3⟩ := read_fin y hy
  unfold Format.order
  rw [h1, k1]
  simp only [Datum.order]
  congr 1
  rw [← compare_scale _ _ (2 ^ (min i j - double.leastPlace).toNat) (Nat.two_pow_pos _)]
  rw [signed_scale _ _ _ _ (by omega) (by omega), signed_scale _ _ _ _ (by omega) (by omega), h3, k3]
  rfl
theorem order_nan (x y : Nat) (h : isNan x = true ∨ isNan y = true) : double.order x y = none := by
  unfold Format.order
  rcases h with h | h
  · obtain ⟨f, hf⟩ := read_nan x (by simpa [isNan] using h)
    rw [hf]; rfl
  · obtain ⟨f, hf⟩ := read_nan y (by simpa [isNan] using h)
    rw [hf]; cases double.read x <;> rfl
theorem order_val (x y : Nat) (hx : isNan x = false) (hy : isNan y = false) : double.order x y = some (compare (sv x) (sv y)) := by
  have hx' : rung x ≤ 2047 * 2 ^ 52 := by simpa [isNan] using hx
  have hy' : rung y ≤ 2047 * 2 ^ 52 := by simpa [isNan] using hy
  rcases Nat.lt_or_ge (rung x) (2047 * 2 ^ 52) with h1 | h1
  · rcases Nat.lt_or_ge (rung y) (2047 * 2 ^ 52) with h2 | h2
    · exact order_fin x y h1 h2
    · have h2 : rung y = 2047 * 2 ^ 52 := by omega
      obtain ⟨m, i, r1, _, _⟩ := read_fin x h1
      have hv : valN (rung x) < valN (rung y) := valN_lt (by omega)
      unfold Format.order
      rw [r1, read_inf y h2]
      simp only [Datum.order, sv]
      congr 1
      symm
      cases isNeg y
      · simp only [Bool.false_eq_true, if_false]
        rw [Int.compare_eq_lt]; split <;> omega
      · simp only [if_true]
        rw [Int.compare_eq_gt]; split <;> omega
  · have h1 : rung x = 2047 * 2 ^ 52 := by omega
    rcases Nat.lt_or_ge (rung y) (2047 * 2 ^ 52) with h2 | h2
    · obtain ⟨m, i, r1, _, _⟩ := read_fin y h2
      have hv : valN (rung y) < valN (rung x) := valN_lt (by omega)
      unfold Format.order
      rw [r1, read_inf x h1]
      simp only [Datum.order, sv]
      congr 1
      symm
      cases isNeg x
      · simp only [Bool.false_eq_true, if_false]
        rw [Int.compare_eq_gt]; split <;> omega
      · simp only [if_true]
        rw [Int.compare_eq_lt]; split <;> omega
    · have h2 : rung y = 2047 * 2 ^ 52 := by omega
      have hp : 0 < valN (2047 * 2 ^ 52) := by have := valN_lt (show 0 < 2047 * 2 ^ 52 by decide); omega
      unfold Format.order
      rw [read_inf x h1, read_inf y h2]
      simp only [Datum.order, sv, h1, h2]
      congr 1
      symm
      cases isNeg x <;> cases isNeg y
      · simp
      · simp only [if_true, Bool.false_eq_true, if_false]; rw [Int.compare_eq_gt.2 (by omega)]; rfl
      · simp only [if_true, Bool.false_eq_true, if_false]; rw [Int.compare_eq_lt.2 (by omega)]; rfl
      · simp
end Go.Proofs.YtdomglkcfecnnaaGreat
