/- Walks: At. -/
import Derived.Test.YtepjdnokkgmhoaaI2
namespace Go.Proofs.Ytepjdnokkgmhoaa
open Go.RowKit Go.Shelf
def atX (lo hi step : Nat) (k : Int) : Nat := if stepsE lo hi step = 0 then (if k < 0 ∨ (stepsN lo hi step : Int) ≤ k then 0 else valB lo step k.toNat) else 0
def atE (lo hi step : Nat) (k : Int) : Int := if stepsE lo hi step = 0 then (if k < 0 ∨ (stepsN lo hi step : Int) ≤ k then 5 else 0) else stepsE lo hi step
set_option maxHeartbeats 1000000 in
theorem tat (lo hi step : Nat) (k : Int) (w : World) : Calls Try.prog 21 #[.float .f64 lo, .float .f64 hi, .float .f64 step, .int .i64 k] w fun e w' => e = .returned (.tuple #[.float .f64 (atX lo hi step k), .int .i64 (atE lo hi step k)]) ∧ w = w' := by
  by_cases h : stepsE lo hi step = 0
  · have HN : Hid (0 < stepsN lo hi step → finB lo = true ∧ finB step = true ∧ finB hi = true ∧ stepsN lo hi step ≤ 10001) := Lib.hid steps_fin
    obtain ⟨N, hN⟩ : ∃ N, stepsN lo hi step = N := ⟨_, rfl⟩
    have e1 : atX lo hi step k = (if k < 0 ∨ (N : Int) ≤ k then 0 else valB lo step k.toNat) := by unfold atX; rw [if_pos h, hN]
    have e2 : atE lo hi step k = (if k < 0 ∨ (N : Int) ≤ k then 5 else 0) := by unfold atE; rw [if_pos h, hN]
    rw [e1, e2]
    have HH := Lib.hid h
    have HHN := Lib.hid hN
    rw [hN] at HN
    by_cases hk : k < 0
    · rw [if_pos (.inl hk), if_pos (.inl hk)]
      have g1 : decide (k < 0) = true := by simpa using hk
      clear e1 e2 h hN hk
      go_enter Try.func21, Try.ntmps21
      go_wp2_with (go_at_call 20; refine (tsteps _ _ _ _).mono ?_; rintro e w' ⟨rfl, rfl⟩; rw [HH.out, HHN.out])
      go_ret2
      exact ⟨rfl, rfl⟩
    · have g1 : decide (k < 0) = false := by simpa using hk
      by_cases hk2 : (N : Int) ≤ k
      · rw [if_pos (.inr hk2), if_pos (.inr hk2)]
        have g2 : decide ((N : Int) ≤ k) = true := by simpa using hk2
        clear e1 e2 h hN hk hk2
        go_enter Try.func21, Try.ntmps21
        go_wp2_with (go_at_call 20; refine (tsteps _ _ _ _).mono ?_; rintro e w' ⟨rfl, rfl⟩; rw [HH.out, HHN.out])
        go_ret2
        exact ⟨rfl, rfl⟩
      · rw [if_neg (by omega), if_neg (by omega)]
        obtain ⟨j, rfl⟩ : ∃ j : Nat, k = (j : Int) := ⟨k.toNat, by omega⟩
        have g2 : decide (N ≤ j) = false := by simp; omega
        have FF := HN.out (by omega)
        have FL := Lib.hid FF.1
        have FS := Lib.hid FF.2.1
        have FK := Lib.hid (show j < 2 ^ 53 by omega)
        rw [Int.toNat_natCast]
        clear e1 e2 h hN hk hk2 FF
        go_enter Try.func21, Try.ntmps21
        go_wp2_with (first | (go_at_call 20; refine (tsteps _ _ _ _).mono ?_; rintro e w' ⟨rfl, rfl⟩; rw [HH.out, HHN.out]) | (go_at_call 44; refine (tvalue _ _ _ FL.out FS.out FK.out _).mono ?_; rintro e w' ⟨rfl, rfl⟩))
        go_ret2
        exact ⟨rfl, rfl⟩
  · have e1 : atX lo hi step k = 0 := by unfold atX; rw [if_neg h]
    have e2 : atE lo hi step k = stepsE lo hi step := by unfold atE; rw [if_neg h]
    rw [e1, e2]
    have ht : (stepsE lo hi step != 0) = true := by simpa using h
    clear e1 e2 h
    go_enter Try.func21, Try.ntmps21
    go_wp2_with (go_at_call 20; refine (tsteps _ _ _ _).mono ?_; rintro e w' ⟨rfl, rfl⟩)
    go_ret2
    exact ⟨rfl, rfl⟩
end Go.Proofs.Ytepjdnokkgmhoaa
