/- Walks: the reference's At. -/
import Derived.Test.YtepjdnokkgmhoaaD4
namespace Go.Proofs.Ytepjdnokkgmhoaa
open Go.RowKit Go.Shelf
theorem vlist_get (lo step k i : Nat) (h : i < k) : (vlist lo step k)[i]? = some (.float .f64 (valB lo step i)) := by simp [vlist, h]
theorem owns_cell {w : World} {base : Nat} {x : Option Addr} {n cap lo step : Nat} (h : w.ownsRow base 22 1 (.slice x n cap) n (vlist lo step n)) (hp : 0 < n) : ∃ g, x = some ⟨g, 0, none⟩ ∧ base ≤ g ∧ n ≤ cap ∧ ∀ i, i < n → w.cell? ⟨g, i, none⟩ = some (.float .f64 (valB lo step i)) := by
  have h' := h
  rcases h.2 with ⟨hv, h0⟩ | ⟨g, cp, cur, hv, hb, hg, hnc, hcm, hcs, htake⟩
  · omega
  · cases hv
    refine ⟨g, rfl, hb, hnc, fun i hi => ?_⟩
    rw [h'.cellAt i (by omega)]
    exact vlist_get lo step n i hi
set_option maxHeartbeats 1000000 in
theorem rat (lo hi step : Nat) (k : Int) (w : World) : Calls Try.prog 24 #[.float .f64 lo, .float .f64 hi, .float .f64 step, .int .i64 k] w fun e w' => e = .returned (.tuple #[.float .f64 (atX lo hi step k), .int .i64 (atE lo hi step k)]) ∧ Below w.heap.size w w' := by
  have HV := Lib.hid (fun W => rvalues lo hi step W)
  obtain ⟨N, hN⟩ : ∃ N, stepsN lo hi step = N := ⟨_, rfl⟩
  obtain ⟨E, hE⟩ : ∃ E, stepsE lo hi step = E := ⟨_, rfl⟩
  obtain ⟨X, hX⟩ : ∃ X, atX lo hi step k = X := ⟨_, rfl⟩
  obtain ⟨F, hF⟩ : ∃ F, atE lo hi step k = F := ⟨_, rfl⟩
  have e1 : X = if E = 0 then (if k < 0 ∨ (N : Int) ≤ k then 0 else valB lo step k.toNat) else 0 := by rw [← hX, ← hE, ← hN]; rfl
  have e2 : F = if E = 0 then (if k < 0 ∨ (N : Int) ≤ k then 5 else 0) else E := by rw [← hF, ← hE, ← hN]; rfl
  rw [hX, hF]
  unfold GivesVals at HV
  rw [hN, hE] at HV
  have E1 := Lib.hid e1
  have E2 := Lib.hid e2
  clear hN hE hX hF e1 e2
  by_cases hk : k < 0
  · have g1 : decide (k < 0) = true := by simpa using hk
    have HK := Lib.hid hk
    clear hk
    go_enter Try.func24, Try.ntmps24
    go_wp2_with (go_at_call 27; refine (HV.out _).mono ?_; rintro e w' (⟨rfl, v, rfl, hO, hB⟩ | ⟨rfl, rfl, rfl, hB⟩); (obtain ⟨x, cap, rfl⟩ := owns_slice hO); have HB := Lib.hid hB; clear hB hO)
    · go_ret2
      have q1 : X = 0 := by have q := E1.out; simpa [HK.out] using q
      have q2 : F = 5 := by have q := E2.out; simpa [HK.out] using q
      exact ⟨by rw [q1, q2]; rfl, HB.out⟩
    · have HB := Lib.hid hB
      clear hB
      go_wp2
      go_ret2
      have q1 : X = 0 := by have q := E1.out; simpa using q
      have q2 : F = 180 := by have q := E2.out; simpa using q
      exact ⟨by rw [q1, q2]; rfl, HB.out⟩
  · obtain ⟨j, rfl⟩ : ∃ j : Nat, k = (j : Int) := ⟨k.toNat, by omega⟩
    have g1 : decide ((j : Int) < 0) = false := by simp
    clear hk
    by_cases hj : N ≤ j
    · have g2 : decide (N ≤ j) = true := by simpa using hj
      have HJ := Lib.hid hj
      clear hj
      go_enter Try.func24, Try.ntmps24
      go_wp2_with (go_at_call 27; refine (HV.out _).mono ?_; rintro e w' (⟨rfl, v, rfl, hO, hB⟩ | ⟨rfl, rfl, rfl, hB⟩); (obtain ⟨x, cap, rfl⟩ := owns_slice hO); have HB := Lib.hid hB; clear hB hO)
      · go_ret2
        have q1 : X = 0 := by have q := E1.out; have := HJ.out; rw [if_pos trivial, if_pos (.inr (by omega))] at q; exact q
        have q2 : F = 5 := by have q := E2.out; have := HJ.out; rw [if_pos trivial, if_pos (.inr (by omega))] at q; exact q
        exact ⟨by rw [q1, q2]; rfl, HB.out⟩
      · have HB := Lib.hid hB
        clear hB
        go_wp2
        go_ret2
        have q1 : X = 0 := by have q := E1.out; simpa using q
        have q2 : F = 180 := by have q := E2.out; simpa using q
        exact ⟨by rw [q1, q2]; rfl, HB.out⟩
    · have g2 : decide (N ≤ j) = false := by simp; omega
      have HJ := Lib.hid (show j < N by omega)
      have hjn : (j : Int) < (N : Int) := by omega
      have hj0 : (0 : Int) ≤ (j : Int) := by omega
      clear hj
      go_enter Try.func24, Try.ntmps24
      go_wp2_with (go_at_call 27; refine (HV.out _).mono ?_; rintro e w' (⟨rfl, v, rfl, hO, hB⟩ | ⟨rfl, rfl, rfl, hB⟩); (obtain ⟨x, cap, rfl⟩ := owns_slice hO); (obtain ⟨g, rfl, hg1, hg2, hc⟩ := owns_cell hO (by have := HJ.out; omega)); have hcj := hc j HJ.out; have HB := Lib.hid hB; clear hB hO hc)
      · go_ret2
        have q1 : X = valB lo step j := by have q := E1.out; have := HJ.out; rw [if_pos trivial, if_neg (by omega)] at q; exact q
        have q2 : F = 0 := by have q := E2.out; have := HJ.out; rw [if_pos trivial, if_neg (by omega)] at q; exact q
        exact ⟨by rw [q1, q2]; rfl, HB.out⟩
      · have := HJ.out; omega
end Go.Proofs.Ytepjdnokkgmhoaa
