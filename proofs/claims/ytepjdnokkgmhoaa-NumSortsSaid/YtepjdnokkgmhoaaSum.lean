/- Sums and products keep order. -/
import Derived.Test.YtepjdnokkgmhoaaMono
namespace Go.Proofs.Ytepjdnokkgmhoaa
open Ieee
def sgnd (s : Bool) (X : Nat) : Int := if s then -(X : Int) else (X : Int)
def R0 (S : Int) : Nat := RN (-1074) S.natAbs
def rsv (S : Int) : Int := if S < 0 then -(valN (R0 S) : Int) else (valN (R0 S) : Int)
theorem RNg_inf (B I lb X : Nat) : RNg B I lb X ≤ I := by
  unfold RNg
  split
  · exact Nat.zero_le _
  · exact Nat.min_le_right _ _
theorem inf_eq : double.infRung = 2047 * 2 ^ 52 := by decide
theorem RN_inf (b : Int) (X : Nat) : RN b X ≤ 2047 * 2 ^ 52 := by
  rw [← inf_eq]; exact RNg_inf _ _ _ _
theorem RNg_zero (B I lb : Nat) : RNg B I lb 0 = 0 := by unfold RNg; rw [if_pos rfl]
theorem RN_zero (b : Int) : RN b 0 = 0 := RNg_zero _ _ _
theorem RN_lt (b : Int) (X : Nat) : RN b X < 2 ^ 63 := Nat.lt_of_le_of_lt (RN_inf b X) (by decide)
theorem isNeg_word (s : Bool) (r : Nat) (h : r < 2 ^ 63) : isNeg (double.word s r) = s := by
  have hw : double.signWeight = 2 ^ 63 := by decide
  unfold Format.word isNeg
  rw [hw]
  cases s
  · simp only [Bool.false_eq_true, if_false]
    rw [Nat.div_eq_of_lt h]; rfl
  · simp only [if_true]
    rw [show (2 ^ 63 + r) / 2 ^ 63 = 1 by omega]; rfl
theorem sv_word (s : Bool) (r : Nat) (h : r < 2 ^ 63) : sv (double.word s r) = sgnd s (valN r) := by
  unfold sv sgnd
  rw [isNeg_word s r h, rung_word s r h]
theorem signed_sgnd (s : Bool) (m : Nat) (i base : Int) (h : base ≤ i) (hl : (-1074 : Int) ≤ base) : signed s m (i - base).toNat * ((2 ^ (base - -1074).toNat : Nat) : Int) = sgnd s (m * 2 ^ (i - -1074).toNat) := by
  have := signed_scale s m i base h (by rw [least_eq]; exact hl)
  rw [least_eq] at this
  exact this
theorem sum_core (s t : Bool) (m n : Nat) (i j : Int) (hi : (-1074 : Int) ≤ i) (hj : (-1074 : Int) ≤ j) :
    ∃ r, ((Datum.number s m i).sum (.number t n j)).map double.write = some r ∧ rung r = R0 (sgnd s (m * 2 ^ (i - -1074).toNat) + sgnd t (n * 2 ^ (j - -1074).toNat)) ∧ sv r = rsv (sgnd s (m * 2 ^ (i - -1074).toNat) + sgnd t (n * 2 ^ (j - -1074).toNat)) := by
  obtain ⟨base, hb⟩ : ∃ base, min i j = base := ⟨_, rfl⟩
  have h1 := signed_sgnd s m i base (by omega) (by omega)
  have h2 := signed_sgnd t n j base (by omega) (by omega)
  obtain ⟨T, hT⟩ : ∃ T, signed s m (i - base).toNat + signed t n (j - base).toNat = T := ⟨_, rfl⟩
  obtain ⟨c, hc⟩ : ∃ c, 2 ^ (base - -1074).toNat = c := ⟨_, rfl⟩
  have hc0 : 0 < c := by rw [← hc]; exact Nat.two_pow_pos _
  rw [hc] at h1 h2
  have hS : sgnd s (m * 2 ^ (i - -1074).toNat) + sgnd t (n * 2 ^ (j - -1074).toNat) = T * (c : Int) := by rw [← h1, ← h2, ← hT, Int.add_mul]
  rw [hS]
  refine ⟨_, rfl, ?_⟩
  have hR : R0 (T * (c : Int)) = RN (-1074) (T.natAbs * c) := by unfold R0; rw [Int.natAbs_mul, Int.natAbs_natCast]
  dsimp only [Format.write]
  rw [hb, hT, nearest_RN _ _ base (-1074) (by omega) (by omega), hc]
  refine ⟨by rw [rung_word _ _ (RN_lt _ _), hR], ?_⟩
  rw [sv_word _ _ (RN_lt _ _)]
  unfold rsv
  rw [hR]
  rcases Int.lt_trichotomy T 0 with q | q | q
  · rw [if_neg (by omega), decide_eq_true q, if_pos (Int.mul_neg_of_neg_of_pos q (by omega))]; rfl
  · subst q
    rw [Int.natAbs_zero, Nat.zero_mul, RN_zero, valN_zero]
    simp [sgnd]
  · rw [if_neg (by omega), decide_eq_false (by omega), if_neg (by have := Int.mul_pos q (show (0 : Int) < (c : Int) by omega); omega)]; rfl
theorem valN_sgnd {x : Nat} : sv x = sgnd (isNeg x) (valN (rung x)) := rfl
theorem add_sv {x y : Nat} (hx : finB x = true) (hy : finB y = true) : ∃ r, double.add x y = some r ∧ rung r = R0 (sv x + sv y) ∧ sv r = rsv (sv x + sv y) := by
  obtain ⟨m, i, h1, h2, h3⟩ := read_fin x (by simpa [finB] using hx)
  obtain ⟨n, j, k1, k2, k3⟩ := read_fin y (by simpa [finB] using hy)
  rw [least_eq] at h2 h3 k2 k3
  have := sum_core (isNeg x) (isNeg y) m n i j h2 k2
  rw [h3, k3] at this
  unfold Format.add
  rw [h1, k1]
  exact this
theorem sgnd_not (s : Bool) (X : Nat) : sgnd (!s) X = -sgnd s X := by cases s <;> simp [sgnd]
theorem sub_sv {x y : Nat} (hx : finB x = true) (hy : finB y = true) : ∃ r, double.sub x y = some r ∧ rung r = R0 (sv x - sv y) ∧ sv r = rsv (sv x - sv y) := by
  obtain ⟨m, i, h1, h2, h3⟩ := read_fin x (by simpa [finB] using hx)
  obtain ⟨n, j, k1, k2, k3⟩ := read_fin y (by simpa [finB] using hy)
  rw [least_eq] at h2 h3 k2 k3
  have := sum_core (isNeg x) (!isNeg y) m n i j h2 k2
  rw [h3, k3, sgnd_not] at this
  unfold Format.sub
  rw [h1, k1]
  exact this
theorem R0_mono {S T : Int} (h : S.natAbs ≤ T.natAbs) : R0 S ≤ R0 T := RN_mono _ h
theorem rsv_mono {S T : Int} (h : S ≤ T) : rsv S ≤ rsv T := by
  unfold rsv
  by_cases h1 : S < 0
  · rw [if_pos h1]
    by_cases h2 : T < 0
    · rw [if_pos h2]
      have := valN_le (R0_mono (show T.natAbs ≤ S.natAbs by omega))
      omega
    · rw [if_neg h2]; omega
  · rw [if_neg h1, if_neg (by omega)]
    have := valN_le (R0_mono (show S.natAbs ≤ T.natAbs by omega))
    omega
theorem R0_zero {S : Int} (h : R0 S = 0) : S = 0 := by
  rcases Nat.eq_zero_or_pos S.natAbs with q | q
  · omega
  · have := RN_pos (-1074) (X := S.natAbs) (by rw [show ((-1074 : Int) - -1074).toNat = 0 by omega]; omega)
    unfold R0 at h; omega
theorem R0_of_zero : R0 0 = 0 := by unfold R0; rw [Int.natAbs_zero, RN_zero]
end Go.Proofs.Ytepjdnokkgmhoaa
