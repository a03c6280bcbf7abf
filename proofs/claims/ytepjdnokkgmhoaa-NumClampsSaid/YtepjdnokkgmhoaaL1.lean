/- NumClamps: the walk. -/
import Derived.Test.YtepjdnokkgmhoaaA1
namespace Go.Proofs.Ytepjdnokkgmhoaa
open Go.RowKit Go.Shelf
theorem leB_of {a b : Nat} (ha : isNan a = false) (hb : isNan b = false) (h : sv a ≤ sv b) : leB a b = true := by
  unfold leB
  rw [order_val a b ha hb]
  rcases Int.lt_or_eq_of_le h with q | q
  · rw [Int.compare_eq_lt.2 q]; rfl
  · rw [Int.compare_eq_eq.2 q]; rfl
theorem clamp_good {x lo hi : Nat} (h : clampBad x lo hi = false) : isNan (clampX x lo hi) = false ∧ isNan lo = false ∧ isNan hi = false ∧ sv lo ≤ sv (clampX x lo hi) ∧ sv (clampX x lo hi) ≤ sv hi ∧ (clampX x lo hi = x ∨ clampX x lo hi = lo ∨ clampX x lo hi = hi) := by
  have g := h
  simp only [clampBad, Bool.or_eq_false_iff, decide_eq_false_iff_not] at g
  obtain ⟨g1, g2, g3, g4⟩ := g
  unfold clampX
  rw [h]
  simp only [Bool.false_eq_true, if_false]
  split
  · exact ⟨g2, g2, g3, by omega, by omega, .inr (.inl rfl)⟩
  · split
    · exact ⟨g3, g2, g3, by omega, by omega, .inr (.inr rfl)⟩
    · exact ⟨g1, g2, g3, by omega, by omega, .inl rfl⟩
theorem clamp_again {y lo hi : Nat} (hy : isNan y = false) (hl : isNan lo = false) (hh : isNan hi = false) (h1 : sv lo ≤ sv y) (h2 : sv y ≤ sv hi) : clampX y lo hi = y ∧ clampE y lo hi = 0 := by
  have hb : clampBad y lo hi = false := by
    simp only [clampBad, hy, hl, hh, Bool.false_or, decide_eq_false_iff_not]; omega
  refine ⟨?_, by unfold clampE; rw [hb]; rfl⟩
  unfold clampX
  rw [hb]
  simp only [Bool.false_eq_true, if_false]
  rw [if_neg (by omega), if_neg (by omega)]
set_option maxRecDepth 100000 in
set_option maxHeartbeats 2000000 in
theorem clamps_any (x lo hi : Nat) (hx : x < 18446744073709551616) (hl : lo < 18446744073709551616) (hh : hi < 18446744073709551616) (w : World) : Calls Try.prog 3 #[.float .f64 x, .float .f64 lo, .float .f64 hi] w fun e w' => e = .returned (.bool true) ∧ Below w.heap.size w w' := by
  have HC := Lib.hid (fun f hf W => clamp_walk f hf x lo hi W)
  cases hb : clampBad x lo hi
  case true =>
    have e1 : clampX x lo hi = 0 := by unfold clampX; rw [hb]; rfl
    have e2 : clampE x lo hi = 180 := by unfold clampE; rw [hb]; rfl
    have hs := fun W => tsame 0 0 (by omega) (by omega) W
    rw [beq_self_eq_true] at hs
    have HS := Lib.hid hs
    rw [e1, e2] at HC
    have h00 : (FloatKind.f64.format.order 0 0) = some .eq := ord_num nan_zero
    clear hb e1 e2 hx hl hh hs
    go_enter Try.func3, Try.ntmps3
    go_wp2_with (first | (go_at_call 9; refine (HC.out 9 (.inl rfl) _).mono ?_; rintro e w' ⟨rfl, rfl⟩) | (go_at_call 10; refine (HC.out 10 (.inr rfl) _).mono ?_; rintro e w' ⟨rfl, rfl⟩) | (go_at_call 11; refine (HS.out _).mono ?_; rintro e w' ⟨rfl, rfl⟩) | (go_at_call 12; refine (tawake _).mono ?_; rintro e w1 ⟨rfl, hB1⟩; have HB1 := Lib.hid hB1; clear hB1))
    go_ret
    exact ⟨rfl, HB1.out⟩
  case false =>
    obtain ⟨c1, c2, c3, c4, c5, c6⟩ := clamp_good hb
    have hy : clampX x lo hi < 18446744073709551616 := by rcases c6 with h | h | h <;> rw [h] <;> assumption
    have e2 : clampE x lo hi = 0 := by unfold clampE; rw [hb]; rfl
    rw [e2] at HC
    obtain ⟨y, hyy⟩ : ∃ y, clampX x lo hi = y := ⟨_, rfl⟩
    rw [hyy] at HC c1 c4 c5 hy
    obtain ⟨a1, a2⟩ := clamp_again c1 c2 c3 c4 c5
    have hA := fun W => clamp_walk 9 (.inl rfl) y lo hi W
    rw [a1, a2] at hA
    have HA := Lib.hid hA
    have hs := fun W => tsame y y hy hy W
    rw [beq_self_eq_true] at hs
    have HS := Lib.hid hs
    have t1 := le_test true (leB_of c2 c1 c4)
    have t2 := le_test true (leB_of c1 c3 c5)
    clear hb c1 c2 c3 c4 c5 c6 hy e2 a1 a2 hyy hA hs hx hl hh
    go_enter Try.func3, Try.ntmps3
    go_wp2_with (first | (go_at_call 9; first | ((with_reducible refine (HA.out _).mono ?_); rintro e w' ⟨rfl, rfl⟩) | ((with_reducible refine (HC.out 9 (.inl rfl) _).mono ?_); rintro e w' ⟨rfl, rfl⟩)) | (go_at_call 10; refine (HC.out 10 (.inr rfl) _).mono ?_; rintro e w' ⟨rfl, rfl⟩) | (go_at_call 11; refine (HS.out _).mono ?_; rintro e w' ⟨rfl, rfl⟩) | (go_at_call 12; refine (tawake _).mono ?_; rintro e w1 ⟨rfl, hB1⟩; have HB1 := Lib.hid hB1; clear hB1))
    go_ret
    exact ⟨rfl, HB1.out⟩
end Go.Proofs.Ytepjdnokkgmhoaa
