/- Walks: how many places a ladder has. -/
import Derived.Test.YtepjdnokkgmhoaaC2
namespace Go.Proofs.Ytepjdnokkgmhoaa
open Go.RowKit
theorem sv_zero : sv 0 = 0 := by decide
theorem nan_zero : isNan 0 = false := by decide
theorem le_test {a b : Nat} (c : Bool) (h : leB a b = c) : (FloatKind.f64.format.order a b == some .lt || FloatKind.f64.format.order a b == some .eq) = c := h
set_option maxRecDepth 100000 in
set_option maxHeartbeats 1000000 in
theorem tsteps_bad (lo hi step : Nat) (w : World) (h : stepsBad lo hi step = true) : Calls Try.prog 20 #[.float .f64 lo, .float .f64 hi, .float .f64 step] w fun e w' => e = .returned (.tuple #[.int .i64 0, .int .i64 180]) ∧ w = w' := by
  cases f1 : finB lo
  · clear h
    go_enter Try.func20, Try.ntmps20
    go_wp2_with (go_at_call 43; refine (tfinite _ _).mono ?_; rintro e w' ⟨rfl, rfl⟩)
    go_ret2; exact ⟨rfl, rfl⟩
  cases f2 : finB hi
  · clear h
    go_enter Try.func20, Try.ntmps20
    go_wp2_with (go_at_call 43; refine (tfinite _ _).mono ?_; rintro e w' ⟨rfl, rfl⟩)
    go_ret2; exact ⟨rfl, rfl⟩
  cases f3 : finB step
  · clear h
    go_enter Try.func20, Try.ntmps20
    go_wp2_with (go_at_call 43; refine (tfinite _ _).mono ?_; rintro e w' ⟨rfl, rfl⟩)
    go_ret2; exact ⟨rfl, rfl⟩
  simp only [stepsBad, f1, f2, f3, Bool.not_true, Bool.false_or, Bool.or_eq_true, decide_eq_true_eq] at h
  rcases ord_cases (fin_num f1) (fin_num f2) with ⟨k, r⟩ | ⟨k, r⟩ | ⟨k, r⟩
  case inr.inr =>
    clear h k
    go_enter Try.func20, Try.ntmps20
    go_wp2_with (go_at_call 43; refine (tfinite _ _).mono ?_; rintro e w' ⟨rfl, rfl⟩)
    go_ret2; exact ⟨rfl, rfl⟩
  all_goals
    have h4 : sv step ≤ 0 := by omega
    rcases ord_cases (fin_num f3) nan_zero with ⟨q, t⟩ | ⟨q, t⟩ | ⟨q, t⟩
    case inr.inr => rw [sv_zero] at q; omega
    all_goals
      clear h k q h4
      go_enter Try.func20, Try.ntmps20
      go_wp2_with (go_at_call 43; refine (tfinite _ _).mono ?_; rintro e w' ⟨rfl, rfl⟩)
      go_ret2; exact ⟨rfl, rfl⟩
set_option maxRecDepth 100000 in
set_option maxHeartbeats 1000000 in
theorem tsteps_good (lo hi step : Nat) (w : World) (h : stepsBad lo hi step = false) : Calls Try.prog 20 #[.float .f64 lo, .float .f64 hi, .float .f64 step] w fun e w' => e = .returned (.tuple #[.int .i64 (stepsN lo hi step : Nat), .int .i64 (stepsE lo hi step)]) ∧ w = w' := by
  have g := h
  simp only [stepsBad, Bool.or_eq_false_iff, Bool.not_eq_false', decide_eq_false_iff_not] at g
  obtain ⟨f1, f2, f3, g4, g5⟩ := g
  have HV := Lib.hid (fun k hk => tvalue lo step k f1 f3 hk)
  have HS := Lib.hid (stepsRaw_eq lo hi step)
  have e1 : stepsN lo hi step = if 10001 < stepsRaw lo hi step then 0 else stepsRaw lo hi step := by unfold stepsN; rw [h]; simp only [Bool.false_eq_true, if_false]
  have e2 : stepsE lo hi step = if 10001 < stepsRaw lo hi step then 180 else 0 := by unfold stepsE; rw [h]; simp only [Bool.false_eq_true, if_false]
  have E1 := Lib.hid e1
  have E2 := Lib.hid e2
  rcases ord_cases (fin_num f1) (fin_num f2) with ⟨k, r⟩ | ⟨k, r⟩ | ⟨k, r⟩
  case inr.inr => omega
  all_goals
    rcases ord_cases (fin_num f3) nan_zero with ⟨q, t⟩ | ⟨q, t⟩ | ⟨q, t⟩
    case inl => rw [sv_zero] at q; omega
    case inr.inl => rw [sv_zero] at q; omega
    clear k q g4 g5 h e1 e2
    go_enter Try.func20, Try.ntmps20
    go_wp2_with (go_at_call 43; refine (tfinite _ _).mono ?_; rintro e w' ⟨rfl, rfl⟩)
    go_loop [8] (fun i => ∃ k : Nat, k ≤ 10002 ∧ i = .int .i64 k ∧ Hid (∀ j, j < k → leB (valB lo step j) hi = true)) (fun i => 10002 - (intOf i).toNat)
    case atStart => exact ⟨0, by omega, rfl, fun j hj => absurd hj (by omega)⟩
    case round =>
      obtain ⟨k, hk, rfl, hall⟩ := hrel
      by_cases hlt : k ≤ 10001
      · cases hp : leB (valB lo step k) hi
        · have hraw := Lib.hid (HS.out k (by omega) hall.out (.inr hp))
          have hp' := le_test _ hp
          have hng : ¬ 10001 < k := by omega
          have HNG := Lib.hid hng
          have ht1 : decide ((k : Int) ≤ 10001) = true := by simp; omega
          have ht2 : decide ((10001 : Int) < (k : Int)) = false := by simp; omega
          have HK := Lib.hid (show k < 2 ^ 53 by omega)
          clear hp hng hlt hk
          go_wp2_with (go_at_call 44; refine (HV.out k HK.out _).mono ?_; rintro e w' ⟨rfl, rfl⟩)
          go_ret2
          have hr := hraw.out
          exact ⟨by rw [E1.out, E2.out, hr, if_neg HNG.out, if_neg HNG.out]; rfl, rfl⟩
        · have hall2 : Hid (∀ j, j < k + 1 → leB (valB lo step j) hi = true) := fun j hj => by
            rcases Nat.lt_or_ge j k with z | z
            · exact hall.out j z
            · rw [show j = k by omega]; exact hp
          have hp' := le_test _ hp
          clear hp
          go_wp2_with (go_at_call 44; refine (HV.out k (by omega) _).mono ?_; rintro e w' ⟨rfl, rfl⟩)
          go_round
          case rel => exact ⟨k + 1, by omega, by go_num, hall2⟩
          case measure => simp [intOf]; omega
      · have hk2 : k = 10002 := by omega
        subst hk2
        have hraw := Lib.hid (HS.out 10002 (by omega) hall.out (.inl rfl))
        go_wp2_with fail
        go_ret2
        have hr := hraw.out
        exact ⟨by rw [E1.out, E2.out, hr, if_pos (by omega), if_pos (by omega)]; rfl, rfl⟩
theorem tsteps (lo hi step : Nat) (w : World) : Calls Try.prog 20 #[.float .f64 lo, .float .f64 hi, .float .f64 step] w fun e w' => e = .returned (.tuple #[.int .i64 (stepsN lo hi step : Nat), .int .i64 (stepsE lo hi step)]) ∧ w = w' := by
  cases h : stepsBad lo hi step
  · exact tsteps_good lo hi step w h
  · have e1 : stepsN lo hi step = 0 := by unfold stepsN; rw [h]; simp only [if_true]
    have e2 : stepsE lo hi step = 180 := by unfold stepsE; rw [h]; simp only [if_true]
    rw [e1, e2]
    exact tsteps_bad lo hi step w h
end Go.Proofs.Ytepjdnokkgmhoaa
