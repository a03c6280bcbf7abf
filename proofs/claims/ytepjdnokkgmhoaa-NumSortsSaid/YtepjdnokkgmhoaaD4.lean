/- Walks: the reference's Steps and values, whole. -/
import Derived.Test.YtepjdnokkgmhoaaD3
namespace Go.Proofs.Ytepjdnokkgmhoaa
open Go.RowKit Go.Shelf
theorem stepsRaw_stop (lo hi step N : Nat) (hN : stepsRaw lo hi step = N) (h : N < 10002) : leB (valB lo step N) hi = false := by
  have := firstNot_stop (fun k => leB (valB lo step k) hi) 10002
  unfold stepsRaw at hN
  rw [hN] at this
  exact this h
/-- What the reference's values give: N places, or none. -/
def GivesVals (w : World) (lo hi step : Nat) (e : Ending) (w' : World) : Prop :=
  (stepsE lo hi step = 0 ∧ ∃ v, e = .returned (.tuple #[v, .bool true]) ∧ w'.ownsRow w.heap.size 22 1 v (stepsN lo hi step) (vlist lo step (stepsN lo hi step)) ∧ Below w.heap.size w w') ∨
  (stepsE lo hi step = 180 ∧ stepsN lo hi step = 0 ∧ e = .returned (.tuple #[.slice none 0 0, .bool false]) ∧ Below w.heap.size w w')
theorem rvalues (lo hi step : Nat) (w : World) : Calls Try.prog 27 #[.float .f64 lo, .float .f64 hi, .float .f64 step] w (GivesVals w lo hi step) := by
  cases h : stepsBad lo hi step
  · obtain ⟨N, hN⟩ : ∃ N, stepsRaw lo hi step = N := ⟨_, rfl⟩
    have hA := stepsRaw_all lo hi step
    have hS := stepsRaw_stop lo hi step N hN
    have e1 : stepsN lo hi step = if 10001 < N then 0 else N := by unfold stepsN; rw [h, hN]; simp only [Bool.false_eq_true, if_false]
    have e2 : stepsE lo hi step = if 10001 < N then 180 else 0 := by unfold stepsE; rw [h, hN]; simp only [Bool.false_eq_true, if_false]
    rw [hN] at hA
    clear hN
    rcases Nat.lt_or_ge 10001 N with z | z
    · rw [if_pos z] at e1 e2
      refine (rvalues_many lo hi step w h (fun i hi => hA i (by omega))).mono ?_
      rintro e w' ⟨he, hB⟩
      exact .inr ⟨e2, e1, he, hB⟩
    · rw [if_neg (by omega)] at e1 e2
      refine (rvalues_core lo hi step N w h hA z (hS (by omega))).mono ?_
      rintro e w' ⟨v, he, hO, hB⟩
      refine .inl ⟨e2, v, he, ?_, hB⟩
      rw [e1]; exact hO
  · have e1 : stepsN lo hi step = 0 := by unfold stepsN; rw [h]; simp only [if_true]
    have e2 : stepsE lo hi step = 180 := by unfold stepsE; rw [h]; simp only [if_true]
    refine (rvalues_bad lo hi step w h).mono ?_
    rintro e w' ⟨he, rfl⟩
    exact .inr ⟨e2, e1, he, Below.refl _ _⟩
theorem owns_slice {w : World} {base : Nat} {e : TypeId} {v : Value} {n : Nat} {xs : List Value} (h : w.ownsRow base e 1 v n xs) : ∃ x cap, v = .slice x n cap := by
  rcases h.2 with ⟨rfl, h0⟩ | ⟨g, cap, cur, rfl, _⟩
  · subst h0; exact ⟨_, _, rfl⟩
  · exact ⟨_, _, rfl⟩
set_option maxHeartbeats 1000000 in
theorem rsteps (lo hi step : Nat) (w : World) : Calls Try.prog 23 #[.float .f64 lo, .float .f64 hi, .float .f64 step] w fun e w' => e = .returned (.tuple #[.int .i64 (stepsN lo hi step : Nat), .int .i64 (stepsE lo hi step)]) ∧ Below w.heap.size w w' := by
  have HV := Lib.hid (fun W => rvalues lo hi step W)
  obtain ⟨N, hN⟩ : ∃ N, stepsN lo hi step = N := ⟨_, rfl⟩
  obtain ⟨E, hE⟩ : ∃ E, stepsE lo hi step = E := ⟨_, rfl⟩
  unfold GivesVals at HV
  rw [hN, hE] at HV ⊢
  clear hN hE
  go_enter Try.func23, Try.ntmps23
  go_wp2_with (go_at_call 27; refine (HV.out _).mono ?_; rintro e w' (⟨rfl, v, rfl, hO, hB⟩ | ⟨rfl, rfl, rfl, hB⟩); (obtain ⟨x, cap, rfl⟩ := owns_slice hO); have HB := Lib.hid hB; clear hB hO)
  · go_ret2
    exact ⟨rfl, HB.out⟩
  · have HB := Lib.hid hB
    clear hB
    go_wp2
    go_ret2
    exact ⟨rfl, HB.out⟩
end Go.Proofs.Ytepjdnokkgmhoaa
