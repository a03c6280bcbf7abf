/- The text of a number: plain. No program in sight. -/
import Derived.Test.YtfalcmbjjlgoaaaGreatDoorV1
namespace Go.Proofs.YtfalcmbjjlgoaaaGreatDoor
open Ieee Go.Lib
/-- The greatest number that is told. -/
def topN : Nat := 4831355200913801208
def geB (a b : Nat) : Bool := double.order a b == some .gt || double.order a b == some .eq
def lqB (a b : Nat) : Bool := double.order a b == some .lt || double.order a b == some .eq
def eqN (a b : Nat) : Bool := double.order a b == some .eq
def kN (x : Nat) : Nat := (((double.read x).toInt .zero).getD 0).toNat
def trN (x : Nat) : Nat := double.write ((double.read x).integral .zero)
def inN (x : Nat) : Bool := geB x 0 && lqB x topN
def okN (x : Nat) : Bool := inN x && eqN (ofI (kN x)) x
def numT (x : Nat) : Bs := if okN x = true then decDigits (kN x) else [48]
theorem cutZ (s : Bool) (n d : Nat) : Toward.zero.cut s n d = n / 2 ^ (min d (n.log2 + 2)) := by
  unfold Toward.cut
  simp [Nat.shiftLeft_eq]
theorem cutZ_le (n d b : Nat) (h : n ≤ b * 2 ^ d) : n / 2 ^ (min d (n.log2 + 2)) ≤ b := by
  rcases Nat.le_total d (n.log2 + 2) with q | q
  · rw [Nat.min_eq_left q]
    calc n / 2 ^ d ≤ b * 2 ^ d / 2 ^ d := Nat.div_le_div_right h
      _ = b := Nat.mul_div_cancel _ (Nat.two_pow_pos _)
  · rw [Nat.min_eq_right q, Nat.div_eq_of_lt]
    · exact Nat.zero_le _
    · exact Nat.lt_of_lt_of_le Nat.lt_log2_self (Nat.pow_le_pow_right (by omega) (by omega))
def capP (e : Nat) : Nat := 999999999999999 * 2 ^ e
def capV : Nat := capP 1074
theorem capP_eq (a e : Nat) (h : a = 999999999999999 * 8) : a * 2 ^ e = capP (e + 3) := by
  unfold capP
  rw [h, Nat.pow_add, Nat.mul_assoc, Nat.mul_comm 8 (2 ^ e)]
theorem topN_val : valN (rung topN) = capV := by
  unfold valN
  have e1 : rung topN / 2 ^ 52 - 1 = 1071 := by decide
  rw [if_neg (by decide), e1]
  exact capP_eq (2 ^ 52 + rung topN % 2 ^ 52) 1071 (by decide)
theorem le_pow (m b i e : Nat) (h : m * 2 ^ (i + e) ≤ b * 2 ^ e) : m * 2 ^ i ≤ b := by
  rw [Nat.pow_add, ← Nat.mul_assoc] at h
  exact Nat.le_of_mul_le_mul_right h (Nat.two_pow_pos e)
theorem in_num {x : Nat} (h : inN x = true) : isNan x = false ∧ 0 ≤ sv x ∧ sv x ≤ (capV : Int) := by
  unfold inN at h
  rw [Bool.and_eq_true] at h
  obtain ⟨h1, h2⟩ := h
  have hn : isNan x = false := by
    cases q : isNan x
    · rfl
    · unfold geB at h1; rw [order_nan x 0 (.inl q)] at h1; cases h1
  have z0 : sv 0 = 0 := by decide
  have zt : sv topN = (capV : Int) := by
    unfold sv
    rw [if_neg (by decide), topN_val]
  unfold geB at h1
  unfold lqB at h2
  rw [order_val x 0 hn (by decide), z0] at h1
  rw [order_val x topN hn (by decide), zt] at h2
  refine ⟨hn, ?_, ?_⟩
  · rcases Int.lt_or_le (sv x) 0 with q | q
    · rw [Int.compare_eq_lt.2 q] at h1; cases h1
    · exact q
  · rcases Int.lt_or_le (capV : Int) (sv x) with q | q
    · rw [Int.compare_eq_gt.2 q] at h2; cases h2
    · exact q
/-- What a number that is told reads as, and its whole part. -/
theorem in_read {x : Nat} (h : inN x = true) : ∃ K, (double.read x).integral .zero = .number (isNeg x) K 0 ∧ K ≤ 999999999999999 ∧ (isNeg x = true → K = 0 ∧ sv x = 0) := by
  obtain ⟨hn, h0, h1⟩ := in_num h
  have hv : (valN (rung x) : Int) ≤ (capV : Int) ∧ (isNeg x = true → valN (rung x) = 0) := by
    unfold sv at h0 h1
    cases q : isNeg x
    · rw [q] at h1; exact ⟨by simpa using h1, fun e => by cases e⟩
    · rw [q] at h0
      simp only [if_true] at h0
      have : valN (rung x) = 0 := by omega
      exact ⟨by rw [this]; exact Int.natCast_nonneg _, fun _ => this⟩
  have hv1 : valN (rung x) ≤ capV := Int.ofNat_le.1 hv.1
  have hfin : rung x < 2047 * 2 ^ 52 := by
    have hle : rung x ≤ 2047 * 2 ^ 52 := by simpa [isNan] using hn
    rcases Nat.lt_or_ge (rung x) (rung topN + 1) with q | q
    · have : rung topN + 1 ≤ 2047 * 2 ^ 52 := by decide
      omega
    · have := valN_lt (show rung topN < rung x by omega)
      rw [topN_val] at this
      omega
  obtain ⟨m, i, hr, hi, hm⟩ := read_fin x hfin
  have hl : double.leastPlace = -1074 := by decide
  rw [hl] at hi hm
  rw [← hm] at hv1
  unfold capV capP at hv1
  refine ⟨Toward.zero.cut (isNeg x) (m <<< i.toNat) (-i).toNat, by rw [hr]; rfl, ?_, fun q => ?_⟩
  · rw [cutZ]
    refine cutZ_le _ _ _ ?_
    rw [Nat.shiftLeft_eq]
    rcases Int.lt_or_le i 0 with q | q
    · have e1 : i.toNat = 0 := by omega
      have e2 : (i - -1074).toNat = 1074 - (-i).toNat := by omega
      have e3 : 1074 = (-i).toNat + (1074 - (-i).toNat) := by omega
      rw [e1, Nat.pow_zero, Nat.mul_one]
      rw [e2] at hv1
      generalize (-i).toNat = d at e3 hv1 ⊢
      generalize 1074 - d = c at e3 hv1
      rw [e3, Nat.pow_add, ← Nat.mul_assoc] at hv1
      exact Nat.le_of_mul_le_mul_right hv1 (Nat.two_pow_pos _)
    · have e1 : (-i).toNat = 0 := by omega
      have e2 : (i - -1074).toNat = i.toNat + 1074 := by omega
      rw [e1, Nat.pow_zero, Nat.mul_one]
      rw [e2] at hv1
      exact le_pow _ _ _ 1074 hv1
  · have h2 := hv.2 q
    have hm0 : m = 0 := by
      rw [h2] at hm
      rcases Nat.mul_eq_zero.1 hm with e | e
      · exact e
      · exact absurd e (Nat.ne_of_gt (Nat.two_pow_pos _))
    refine ⟨?_, ?_⟩
    · rw [hm0, cutZ]; simp
    · unfold sv; rw [q, h2]; rfl
theorem in_int {x : Nat} (h : inN x = true) : (double.read x).toInt .zero = some (kN x : Int) ∧ kN x ≤ 999999999999999 := by
  obtain ⟨K, h1, h2, h3⟩ := in_read h
  have e : (double.read x).toInt .zero = some (signed (isNeg x) K 0) := by unfold Datum.toInt; rw [h1]
  have e2 : signed (isNeg x) K 0 = (K : Int) := by
    unfold signed
    cases q : isNeg x
    · simp
    · obtain ⟨rfl, _⟩ := h3 q; simp
  have e3 : kN x = K := by unfold kN; rw [e, e2]; simp
  rw [e, e2, e3]
  exact ⟨rfl, h2⟩
/-- Made whole is what the integer is as a number, up to the sign of 0. -/
theorem in_tr {x : Nat} (h : inN x = true) : eqN (trN x) x = eqN (ofI (kN x)) x := by
  obtain ⟨K, h1, h2, h3⟩ := in_read h
  obtain ⟨hn, _⟩ := in_num h
  obtain ⟨e1, _⟩ := in_int h
  have e2 : (kN x : Int) = signed (isNeg x) K 0 := by
    have : (double.read x).toInt .zero = some (signed (isNeg x) K 0) := by unfold Datum.toInt; rw [h1]
    rw [this] at e1
    exact (Option.some.inj e1).symm
  have ht : trN x = double.nearest (isNeg x) K 0 := by unfold trN; rw [h1]; rfl
  cases q : isNeg x
  · rw [q] at ht e2
    have e3 : kN x = K := by unfold signed at e2; simp at e2; omega
    have ho : ofI (K : Int) = double.nearest false K 0 := by
      unfold ofI floatOfInt FloatKind.nearest FloatKind.encode
      simp only [Int.natAbs_natCast]
      rw [decide_eq_false (show ¬ ((K : Int) < 0) by omega)]
      rfl
    rw [ht, e3, ho]
  · obtain ⟨rfl, hx⟩ := h3 q
    have e3 : kN x = 0 := by unfold signed at e2; simp at e2; omega
    rw [q] at ht
    have a1 : trN x = 2 ^ 63 := by rw [ht]; decide
    have a2 : ofI ((0 : Nat) : Int) = 0 := by decide
    unfold eqN
    rw [e3, a1, a2, order_val _ x (by decide) hn, order_val _ x (by decide) hn, hx]
    decide
theorem numT_len (x : Nat) : (numT x).length ≤ 20 := by
  unfold numT
  split
  · rename_i h
    unfold okN at h
    rw [Bool.and_eq_true] at h
    have hk := (in_int h.1).2
    generalize kN x = k at hk
    have key : ∀ n k, k < 10 ^ (n + 1) → (decDigits k).length ≤ n + 1 := by
      intro n
      induction n with
      | zero => intro k h; unfold decDigits; rw [dif_pos (by omega)]; simp
      | succ n ih =>
        intro k h
        unfold decDigits
        split
        · simp
        · have := ih (k / 10) (by rw [Nat.pow_succ] at h; omega)
          simp only [List.length_append, List.length_cons, List.length_nil]
          omega
    have := key 15 k (by omega)
    omega
  · simp
end Go.Proofs.YtfalcmbjjlgoaaaGreatDoor
