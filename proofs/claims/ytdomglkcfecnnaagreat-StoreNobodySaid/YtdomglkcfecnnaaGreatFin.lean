/- Finite numbers; the values of a ladder's places: plain. -/
import Derived.Test.YtdomglkcfecnnaaGreatOrd
namespace Go.Proofs.YtdomglkcfecnnaaGreat
open Ieee
def finB (x : Nat) : Bool := decide (rung x < 2047 * 2 ^ 52)
theorem fin_num {x : Nat} (h : finB x = true) : isNan x = false := by
  simp only [finB, isNan, decide_eq_true_eq, decide_eq_false_iff_not] at *; omega
theorem rung_word (s : Bool) (r : Nat) (h : r < 2 ^ 63) : rung (double.word s r) = r := by
  have hw : double.signWeight = 2 ^ 63 := by decide
  unfold Format.word rung
  rw [hw]
  split <;> omega
theorem nan_nearest (s : Bool) (m : Nat) (i : Int) : isNan (double.nearest s m i) = false := by
  have hi : double.infRung = 2047 * 2 ^ 52 := by decide
  unfold isNan Format.nearest
  rw [decide_eq_false_iff_not]
  split
  · rw [rung_word _ _ (by decide)]; decide
  · dsimp only
    rw [rung_word _ _ (by rw [hi]; omega), hi]
    omega
theorem nan_inf (s : Bool) : isNan (double.write (.infinity s)) = false := by cases s <;> decide
theorem lt_nearest (s : Bool) (m : Nat) (i : Int) : double.nearest s m i < 2 ^ 64 := double.nearest_lt s m i
/-- What a number that is none reads as. -/
theorem read_num (x : Nat) (h : isNan x = false) : (∃ m i, double.read x = .number (isNeg x) m i) ∨ double.read x = .infinity (isNeg x) := by
  have hx' : rung x ≤ 2047 * 2 ^ 52 := by simpa [isNan] using h
  rcases Nat.lt_or_ge (rung x) (2047 * 2 ^ 52) with h1 | h1
  · obtain ⟨m, i, r, _, _⟩ := read_fin x h1; exact .inl ⟨m, i, r⟩
  · exact .inr (read_inf x (by omega))
theorem mul_fin (x y : Nat) (hx : finB x = true) (hy : finB y = true) : ∃ p, double.mul x y = some p ∧ isNan p = false ∧ p < 2 ^ 64 := by
  obtain ⟨m, i, r, _, _⟩ := read_fin x (by simpa [finB] using hx)
  obtain ⟨n, j, q, _, _⟩ := read_fin y (by simpa [finB] using hy)
  unfold Format.mul
  rw [r, q]
  exact ⟨_, rfl, nan_nearest _ _ _, lt_nearest _ _ _⟩
theorem add_fin (x y : Nat) (hx : finB x = true) (hy : isNan y = false) : ∃ p, double.add x y = some p ∧ isNan p = false ∧ p < 2 ^ 64 := by
  obtain ⟨m, i, r, _, _⟩ := read_fin x (by simpa [finB] using hx)
  unfold Format.add
  rw [r]
  rcases read_num y hy with ⟨n, j, q⟩ | q
  · rw [q]; exact ⟨_, rfl, nan_nearest _ _ _, lt_nearest _ _ _⟩
  · rw [q]; exact ⟨_, rfl, nan_inf _, double.write_lt _⟩
theorem sub_fin (x y : Nat) (hx : finB x = true) (hy : isNan y = false) : ∃ p, double.sub x y = some p ∧ isNan p = false ∧ p < 2 ^ 64 := by
  obtain ⟨m, i, r, _, _⟩ := read_fin x (by simpa [finB] using hx)
  unfold Format.sub
  rw [r]
  rcases read_num y hy with ⟨n, j, q⟩ | q
  · rw [q]; exact ⟨_, rfl, nan_nearest _ _ _, lt_nearest _ _ _⟩
  · rw [q]; exact ⟨_, rfl, nan_inf _, double.write_lt _⟩
/-- An integer within 2^53 is a finite number. -/
def ofI (n : Int) : Nat := floatOfInt .f64 n
theorem ofI_num (n : Int) : isNan (ofI n) = false := nan_nearest _ _ _
theorem ofI_lt (n : Int) : ofI n < 2 ^ 64 := lt_nearest _ _ _
theorem cut_zero (s : Bool) (n : Nat) : Toward.even.cut s n 0 = n := by
  unfold Toward.cut
  simp [Nat.mod_one]
theorem kept_small (m : Nat) (h : m.log2 ≤ 52) : m * 2 ^ (52 - m.log2) < 2 ^ 53 := by
  have h2 : m * 2 ^ (52 - m.log2) < 2 ^ (m.log2 + 1) * 2 ^ (52 - m.log2) := Nat.mul_lt_mul_of_pos_right Nat.lt_log2_self (Nat.two_pow_pos _)
  rwa [← Nat.pow_add, show m.log2 + 1 + (52 - m.log2) = 53 by omega] at h2
theorem least_eq : double.leastPlace = -1074 := by decide
/-- The rung of a small whole number. -/
theorem nearest_eq (s : Bool) (m : Nat) (hm : m ≠ 0) (h : m.log2 ≤ 52) : double.nearest s m 0 = double.word s (min (((m.log2 : Int) - 52 - -1074).toNat * double.binade + m * 2 ^ (52 - m.log2)) double.infRung) := by
  have e : max ((0 : Int) + (m.log2 : Int) - (double.fractionBits : Int)) double.leastPlace = (m.log2 : Int) - 52 := by
    have : (double.fractionBits : Int) = 52 := rfl
    rw [this, least_eq]; omega
  have e2 : ((m.log2 : Int) - 52 - 0).toNat = 0 := by omega
  have e3 : ((0 : Int) - ((m.log2 : Int) - 52)).toNat = 52 - m.log2 := by omega
  unfold Format.nearest
  rw [if_neg hm]
  simp only [e]
  rw [e2, cut_zero, e3, Nat.shiftLeft_eq, least_eq]
theorem small_rung (a K B I : Nat) (hB : B = 4503599627370496) (hI : I = 2047 * 4503599627370496) (ha : a ≤ 1074) (hK : K < 2 * 4503599627370496) : min (a * B + K) I < 2047 * 4503599627370496 := by
  subst hB; subst hI
  have : a * 4503599627370496 ≤ 1074 * 4503599627370496 := Nat.mul_le_mul_right _ ha
  omega
theorem nearest_small (s : Bool) (m : Nat) (h : m < 2 ^ 53) : finB (double.nearest s m 0) = true := by
  have hi : double.infRung = 2047 * 4503599627370496 := by decide
  have hb : double.binade = 4503599627370496 := by decide
  by_cases hm : m = 0
  · subst hm; cases s <;> decide
  · have h1 : m.log2 ≤ 52 := by have := (Nat.log2_lt hm).2 h; omega
    have hr := small_rung ((m.log2 : Int) - 52 - -1074).toNat _ _ _ hb hi (by omega) (show m * 2 ^ (52 - m.log2) < 2 * 4503599627370496 from kept_small m h1)
    rw [nearest_eq s m hm h1]
    unfold finB
    rw [rung_word _ _ (Nat.lt_trans hr (by decide)), decide_eq_true_eq]
    exact hr
theorem ofI_fin (n : Nat) (h : n < 2 ^ 53) : finB (ofI n) = true := by
  unfold ofI floatOfInt FloatKind.nearest FloatKind.encode
  exact nearest_small _ _ (by simpa using h)
/-- The value of a place. -/
def prodB (step : Nat) (k : Nat) : Nat := (double.mul (ofI k) step).getD 0
def valB (lo step : Nat) (k : Nat) : Nat := (double.add lo (prodB step k)).getD 0
theorem prodB_eq (step k : Nat) (hs : finB step = true) (hk : k < 2 ^ 53) : double.mul (ofI k) step = some (prodB step k) ∧ isNan (prodB step k) = false ∧ prodB step k < 2 ^ 64 := by
  obtain ⟨p, h1, h2, h3⟩ := mul_fin _ _ (ofI_fin k hk) hs
  unfold prodB; rw [h1]; exact ⟨rfl, h2, h3⟩
theorem valB_eq (lo step k : Nat) (hl : finB lo = true) (hs : finB step = true) (hk : k < 2 ^ 53) : double.add lo (prodB step k) = some (valB lo step k) ∧ isNan (valB lo step k) = false ∧ valB lo step k < 2 ^ 64 := by
  obtain ⟨p, h1, h2, h3⟩ := add_fin lo (prodB step k) hl (prodB_eq step k hs hk).2.1
  unfold valB; rw [h1]; exact ⟨rfl, h2, h3⟩
/-- The first number below m at which p fails; m: at none. -/
def firstNot (p : Nat → Bool) : Nat → Nat
  | 0 => 0
  | m + 1 => if firstNot p m = m ∧ p m = true then m + 1 else firstNot p m
theorem firstNot_le (p : Nat → Bool) (m : Nat) : firstNot p m ≤ m := by
  induction m with
  | zero => simp [firstNot]
  | succ m ih => simp only [firstNot]; split <;> omega
theorem firstNot_all (p : Nat → Bool) (m : Nat) : ∀ i, i < firstNot p m → p i = true := by
  induction m with
  | zero => intro i h; simp [firstNot] at h
  | succ m ih =>
    intro i h
    simp only [firstNot] at h
    split at h
    · rename_i hh
      rcases Nat.lt_or_ge i m with q | q
      · exact ih i (by omega)
      · rw [show i = m by omega]; exact hh.2
    · exact ih i h
theorem firstNot_stop (p : Nat → Bool) (m : Nat) (h : firstNot p m < m) : p (firstNot p m) = false := by
  induction m with
  | zero => omega
  | succ m ih =>
    simp only [firstNot] at h ⊢
    split
    · rename_i hh; rw [if_pos hh] at h; omega
    · rename_i hh
      rw [if_neg hh] at h
      have hle := firstNot_le p m
      rcases Nat.lt_or_ge (firstNot p m) m with q | q
      · exact ih q
      · have e : firstNot p m = m := by omega
        rw [e]
        cases hp : p m
        · rfl
        · exact absurd ⟨e, hp⟩ hh
theorem firstNot_eq (p : Nat → Bool) (m n : Nat) (h1 : n ≤ m) (h2 : ∀ i, i < n → p i = true) (h3 : n = m ∨ p n = false) : firstNot p m = n := by
  rcases Nat.lt_trichotomy (firstNot p m) n with q | q | q
  · have := firstNot_stop p m (by omega); rw [h2 _ q] at this; cases this
  · exact q
  · have := firstNot_all p m n q
    rcases h3 with h3 | h3
    · have := firstNot_le p m; omega
    · rw [h3] at this; cases this
/-- a <= b. -/
def leB (a b : Nat) : Bool := double.order a b == some .lt || double.order a b == some .eq
def ltB (a b : Nat) : Bool := double.order a b == some .lt
def stepsBad (lo hi step : Nat) : Bool := !finB lo || (!finB hi || (!finB step || (decide (sv hi < sv lo) || decide (sv step ≤ 0))))
def stepsRaw (lo hi step : Nat) : Nat := firstNot (fun k => leB (valB lo step k) hi) 10002
theorem stepsRaw_eq (lo hi step n : Nat) (h1 : n ≤ 10002) (h2 : ∀ i, i < n → leB (valB lo step i) hi = true) (h3 : n = 10002 ∨ leB (valB lo step n) hi = false) : stepsRaw lo hi step = n := by
  unfold stepsRaw
  generalize 10002 = m at *
  exact firstNot_eq _ m n h1 h2 h3
theorem stepsRaw_le (lo hi step : Nat) : stepsRaw lo hi step ≤ 10002 := firstNot_le _ _
theorem stepsRaw_all (lo hi step : Nat) : ∀ i, i < stepsRaw lo hi step → leB (valB lo step i) hi = true := firstNot_all _ _
def stepsN (lo hi step : Nat) : Nat := if stepsBad lo hi step then 0 else if 10001 < stepsRaw lo hi step then 0 else stepsRaw lo hi step
def stepsE (lo hi step : Nat) : Int := if stepsBad lo hi step then 180 else if 10001 < stepsRaw lo hi step then 180 else 0
end Go.Proofs.YtdomglkcfecnnaaGreat
