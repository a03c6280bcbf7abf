/- Ladders' values never fall. -/
import Derived.Test.YtepjdnokkgmhoaaSum
namespace Go.Proofs.Ytepjdnokkgmhoaa
open Ieee
theorem RNg_exact {B I r : Nat} (hB : 2 ^ 52 = B) (h : r ≤ I) : RNg B I 0 (if r < B then r else (B + r % B) * 2 ^ (r / B - 1)) = r := by
  have hBp : 0 < B := by rw [← hB]; exact Nat.two_pow_pos _
  unfold RNg
  by_cases h1 : r < B
  · rw [if_pos h1]
    by_cases h0 : r = 0
    · rw [if_pos h0, h0]
    · rw [if_neg h0]
      have hl : r.log2 < 52 := (Nat.log2_lt h0).2 (by rw [hB]; exact h1)
      rw [show max (r.log2 - 52) 0 = 0 by omega, Nat.sub_self, Nat.zero_mul, Nat.zero_add]
      have := rne_exact r (2 ^ 0) (by decide)
      rw [Nat.pow_zero, Nat.mul_one] at this
      rw [Nat.pow_zero, this, Nat.min_eq_left h]
  · rw [if_neg h1]
    have e := Nat.div_add_mod r B
    have hq : 1 ≤ r / B := (Nat.le_div_iff_mul_le hBp).2 (by omega)
    have hf : r % B < B := Nat.mod_lt _ hBp
    generalize r / B = q at *
    generalize r % B = f at *
    have hne : B + f ≠ 0 := by omega
    rw [if_neg (Nat.mul_ne_zero hne (by have := Nat.two_pow_pos (q - 1); omega)), log2_scale _ _ hne]
    have hl : (B + f).log2 = 52 := (Nat.log2_eq_iff hne).2 ⟨by omega, by rw [Nat.pow_succ, hB]; omega⟩
    rw [hl, show max (52 + (q - 1) - 52) 0 = q - 1 by omega, rne_exact _ _ (Nat.two_pow_pos _), Nat.sub_zero]
    have e2 : (q - 1) * B + (B + f) = r := by
      rw [← e, Nat.mul_comm B q, Nat.sub_mul, Nat.one_mul]
      have : B ≤ q * B := Nat.le_mul_of_pos_left B hq
      omega
    rw [e2, Nat.min_eq_left h]
theorem bin_dec : 2 ^ 52 = double.binade := by decide
theorem RN_exact {r : Nat} (h : r ≤ 2047 * 2 ^ 52) : RN (-1074) (valN r) = r := by
  unfold RN
  rw [show ((-1074 : Int) - -1074).toNat = 0 by omega]
  have := RNg_exact (I := double.infRung) bin_dec (by rw [inf_eq]; exact h)
  rw [← bin_dec] at this ⊢
  exact this
theorem R0_sv {x : Nat} (h : isNan x = false) : R0 (sv x) = rung x := by
  have hr : rung x ≤ 2047 * 2 ^ 52 := by simpa [isNan] using h
  unfold R0 sv
  split
  · rw [Int.natAbs_neg, Int.natAbs_natCast]; exact RN_exact hr
  · rw [Int.natAbs_natCast]; exact RN_exact hr
theorem rsv_sv {x : Nat} (h : isNan x = false) : rsv (sv x) = sv x := by
  have h0 := R0_sv h
  unfold rsv
  rw [h0]
  unfold sv
  cases hn : isNeg x
  · simp only [Bool.false_eq_true, if_false]
    rw [if_neg (by omega)]
  · simp only [if_true]
    rcases Nat.eq_zero_or_pos (valN (rung x)) with q | q
    · rw [q]; simp
    · rw [if_pos (by omega)]
@[irreducible] def pc (n : Nat) : Nat := 2 ^ n
theorem pc_eq (n : Nat) : pc n = 2 ^ n := by unfold pc; rfl
theorem ofI_rung (k : Nat) : rung (ofI k) = RN (-1074) (k * pc ((0 : Int) - -1074).toNat) ∧ isNeg (ofI k) = false := by
  have e : ofI (k : Int) = double.nearest (decide ((k : Int) < 0)) (k : Int).natAbs 0 := rfl
  rw [decide_eq_false (by omega), Int.natAbs_natCast, nearest_RN _ _ 0 (-1074) (by omega) (by omega), ← pc_eq] at e
  rw [e]
  exact ⟨rung_word _ _ (RN_lt _ _), isNeg_word _ _ (RN_lt _ _)⟩
theorem ofI_mono {k l : Nat} (h : k ≤ l) : rung (ofI k) ≤ rung (ofI l) := by
  rw [(ofI_rung k).1, (ofI_rung l).1]; exact RN_mono _ (Nat.mul_le_mul_right _ h)
theorem prod_rung (step k : Nat) (hs : finB step = true) (hk : k < 2 ^ 53) : rung (prodB step k) = RN (-2148) (valN (rung (ofI k)) * valN (rung step)) ∧ isNeg (prodB step k) = isNeg step := by
  obtain ⟨m, i, h1, h2, h3⟩ := read_fin (ofI k) (by simpa [finB] using ofI_fin k hk)
  obtain ⟨n, j, k1, k2, k3⟩ := read_fin step (by simpa [finB] using hs)
  rw [least_eq] at h2 h3 k2 k3
  rw [(ofI_rung k).2] at h1
  have e : prodB step k = double.nearest (false ^^ isNeg step) (m * n) (i + j) := by
    unfold prodB Format.mul
    rw [h1, k1]; rfl
  have e2 : m * n * 2 ^ (i + j - -2148).toNat = valN (rung (ofI k)) * valN (rung step) := by
    rw [← h3, ← k3, show (i + j - -2148).toNat = (i - -1074).toNat + (j - -1074).toNat by omega, Nat.pow_add, Nat.mul_mul_mul_comm]
  rw [e, nearest_RN _ _ _ (-2148) (by omega) (by omega), e2]
  exact ⟨rung_word _ _ (RN_lt _ _), by rw [isNeg_word _ _ (RN_lt _ _), Bool.false_xor]⟩
theorem prod_mono (step : Nat) (hs : finB step = true) {k l : Nat} (h : k ≤ l) (hl : l < 2 ^ 53) : rung (prodB step k) ≤ rung (prodB step l) := by
  rw [(prod_rung step k hs (by omega)).1, (prod_rung step l hs hl).1]
  exact RN_mono _ (Nat.mul_le_mul_right _ (valN_le (ofI_mono h)))
theorem prod_sv (step k : Nat) (hs : finB step = true) (hp : 0 < sv step) (hk : k < 2 ^ 53) : sv (prodB step k) = (valN (rung (prodB step k)) : Int) := by
  have hn : isNeg step = false := by
    unfold sv at hp
    cases h : isNeg step
    · rfl
    · rw [h] at hp; simp only [if_true] at hp; omega
  unfold sv
  rw [(prod_rung step k hs hk).2, hn]
  simp only [Bool.false_eq_true, if_false]
/-- A value where the product is finite. -/
theorem val_sv (lo step k : Nat) (hl : finB lo = true) (hp : finB (prodB step k) = true) : sv (valB lo step k) = rsv (sv lo + sv (prodB step k)) := by
  obtain ⟨r, h1, _, h3⟩ := add_sv hl hp
  unfold valB; rw [h1]; exact h3
theorem sv_pos {x r : Nat} (h1 : isNeg x = false) (h2 : rung x = r) : sv x = (valN r : Int) := by
  unfold sv
  rw [h1, h2]
  simp only [Bool.false_eq_true, if_false]
theorem inf_word : double.write (.infinity false) = 9218868437227405312 := by decide
theorem inf_neg : isNeg 9218868437227405312 = false := by decide
theorem inf_rung : rung 9218868437227405312 = 2047 * 2 ^ 52 := by decide
theorem val_inf_word (lo step k : Nat) (hl : finB lo = true) (hk : rung (prodB step k) = 2047 * 2 ^ 52) (hn : isNeg (prodB step k) = false) : valB lo step k = double.write (.infinity false) := by
  obtain ⟨m, i, h1, _, _⟩ := read_fin lo (by simpa [finB] using hl)
  have h2 := read_inf _ hk
  rw [hn] at h2
  unfold valB Format.add
  rw [h1, h2, Datum.sum, Option.map_some, Option.getD_some]
theorem val_inf (lo step k : Nat) (hl : finB lo = true) (hk : rung (prodB step k) = 2047 * 2 ^ 52) (hn : isNeg (prodB step k) = false) : sv (valB lo step k) = (valN (2047 * 2 ^ 52) : Int) :=
  sv_pos (by rw [val_inf_word lo step k hl hk hn, inf_word]; exact inf_neg) (by rw [val_inf_word lo step k hl hk hn, inf_word]; exact inf_rung)
theorem sv_le_inf {x : Nat} (h : isNan x = false) : sv x ≤ (valN (2047 * 2 ^ 52) : Int) := by
  have hr : rung x ≤ 2047 * 2 ^ 52 := by simpa [isNan] using h
  have := valN_le hr
  generalize valN (2047 * 2 ^ 52) = V at *
  unfold sv; split <;> omega
theorem val_mono (lo step : Nat) (hl : finB lo = true) (hs : finB step = true) (hp : 0 < sv step) {k l : Nat} (h : k ≤ l) (hk : l < 2 ^ 53) : sv (valB lo step k) ≤ sv (valB lo step l) := by
  have hm := prod_mono step hs h hk
  have hnl : isNan (prodB step l) = false := (prodB_eq step l hs hk).2.1
  have hrl : rung (prodB step l) ≤ 2047 * 2 ^ 52 := by simpa [isNan] using hnl
  by_cases hf : finB (prodB step l) = true
  · have hfk : finB (prodB step k) = true := by
      unfold finB at hf ⊢; rw [decide_eq_true_eq] at hf ⊢; exact Nat.lt_of_le_of_lt hm hf
    rw [val_sv lo step k hl hfk, val_sv lo step l hl hf]
    refine rsv_mono ?_
    rw [prod_sv step k hs hp (by omega), prod_sv step l hs hp hk]
    have := valN_le hm
    omega
  · have hrr : rung (prodB step l) = 2047 * 2 ^ 52 := by
      unfold finB at hf; rw [decide_eq_true_eq] at hf; exact Nat.le_antisymm hrl (Nat.le_of_not_lt hf)
    have hn : isNeg (prodB step l) = false := by
      rw [(prod_rung step l hs hk).2]
      unfold sv at hp
      cases h : isNeg step
      · rfl
      · rw [h] at hp; simp only [if_true] at hp; omega
    rw [val_inf lo step l hl hrr hn]
    exact sv_le_inf (valB_eq lo step k hl hs (by omega)).2.1
theorem val_ge (lo step k : Nat) (hl : finB lo = true) (hs : finB step = true) (hp : 0 < sv step) (hk : k < 2 ^ 53) : sv lo ≤ sv (valB lo step k) := by
  refine Int.le_trans ?_ (val_mono lo step hl hs hp (Nat.zero_le k) hk)
  have h0 : rung (prodB step 0) = 0 := by
    rw [(prod_rung step 0 hs (by omega)).1, (ofI_rung 0).1, Nat.zero_mul, RN_zero, valN_zero, Nat.zero_mul, RN_zero]
  have hf : finB (prodB step 0) = true := by unfold finB; rw [h0]; decide
  rw [val_sv lo step 0 hl hf, prod_sv step 0 hs hp (by omega), h0, valN_zero]
  rw [show sv lo + ((0 : Nat) : Int) = sv lo by omega, rsv_sv (fin_num hl)]
  exact Int.le_refl _
end Go.Proofs.Ytepjdnokkgmhoaa
