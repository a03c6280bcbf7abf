/- Digits. -/
import Derived.Test.YtepjdnokkgmhoaaR1
namespace Go.Proofs.Ytepjdnokkgmhoaa
open Go.RowKit Go.Shelf
def isDig (c : Nat) : Bool := decide (48 ≤ c) && decide (c ≤ 57)
def allDig (t : ByteArray) : Bool := (List.range t.size).all fun k => isDig (bt t k)
theorem allDig_true {t : ByteArray} (h : ∀ j, j < t.size → isDig (bt t j) = true) : allDig t = true := by
  simp only [allDig, List.all_eq_true, List.mem_range]; exact h
theorem allDig_of {t : ByteArray} (h : allDig t = true) : ∀ j, j < t.size → isDig (bt t j) = true := by
  simpa only [allDig, List.all_eq_true, List.mem_range] using h
theorem allDig_false {t : ByteArray} {k : Nat} (hk : k < t.size) (h : isDig (bt t k) = false) : allDig t = false := by
  cases hc : allDig t
  · rfl
  · rw [allDig_of hc k hk] at h; cases h
theorem dig_of {c : Nat} (h : isDig c = true) : 48 ≤ c ∧ c ≤ 57 := by simpa [isDig] using h
def digN (t : ByteArray) : Int := if allDig t then (t.size : Int) else -1
def begB (s : ByteArray) : Bool := allDig (unsg s) && decide ((unsg s).size ≤ 15)
theorem not_dig {c : Nat} (h : isDig c = false) : c < 48 ∨ (48 ≤ c ∧ 57 < c) := by
  simp [isDig] at h; omega
set_option maxHeartbeats 1000000 in
theorem tdigits (t : ByteArray) (hs : t.size < 2 ^ 62) (w : World) : Calls Try.prog 42 #[.string t] w fun e w' => e = .returned (.int .i64 (digN t)) ∧ w = w' := by
  have HS := Lib.hid hs
  go_enter Try.func42, Try.ntmps42
  go_wp2
  go_loop [3] (fun i => ∃ k : Nat, k ≤ t.size ∧ i = .int .i64 k ∧ Hid (∀ j, j < k → isDig (bt t j) = true)) (fun i => t.size - (intOf i).toNat)
  case atStart => exact ⟨0, by omega, rfl, fun j hj => absurd hj (by omega)⟩
  case round =>
    obtain ⟨k, hk, rfl, hall⟩ := hrel
    by_cases hlt : k < t.size
    · have hb := bt_eq hlt
      have hw : IntKind.i64.wrap ((k : Int) + 1) = (k : Int) + 1 := IntWalk.i64_in _ (by have := HS.out; omega)
      cases hd : isDig (bt t k)
      · have hN : Hid (digN t = -1) := by show digN t = -1; unfold digN; rw [allDig_false hlt hd]; rfl
        rcases not_dig hd with h1 | ⟨h1, h2⟩
        · have g1 : decide ((bt t k : Int) < 48) = true := by simp; omega
          clear h1 hd
          go_wp2
          go_ret
          exact ⟨by rw [hN.out]; rfl, rfl⟩
        · have g1 : decide ((bt t k : Int) < 48) = false := by simp; omega
          have g2 : decide ((57 : Int) < (bt t k : Int)) = true := by simp; omega
          clear h1 h2 hd
          go_wp2
          go_ret
          exact ⟨by rw [hN.out]; rfl, rfl⟩
      · have hall2 : Hid (∀ j, j < k + 1 → isDig (bt t j) = true) := fun j hj => by
          rcases Nat.lt_or_ge j k with z | z
          · exact hall.out j z
          · rw [show j = k by omega]; exact hd
        obtain ⟨h1, h2⟩ := dig_of hd
        have g1 : decide ((bt t k : Int) < 48) = false := by simp; omega
        have g2 : decide ((57 : Int) < (bt t k : Int)) = false := by simp; omega
        clear h1 h2 hd
        go_wp2
        go_round
        case rel => exact ⟨k + 1, by omega, by go_num, hall2⟩
        case measure => simp [intOf]; omega
    · obtain rfl : k = t.size := by omega
      have hN : Hid (digN t = t.size) := by show digN t = t.size; unfold digN; rw [allDig_true hall.out]; rfl
      go_wp2
      go_ret
      exact ⟨by rw [hN.out]; rfl, rfl⟩
theorem unsg_size (s : ByteArray) : (unsg s).size ≤ s.size := by
  unfold unsg; split
  · rw [ByteArray.size_extract]; omega
  · exact Nat.le_refl _
set_option maxHeartbeats 1000000 in
theorem tbegins (s : ByteArray) (hs : s.size < 2 ^ 62) (w : World) : Calls Try.prog 17 #[.string s] w fun e w' => e = .returned (.bool (begB s)) ∧ w = w' := by
  have HS := Lib.hid (Nat.lt_of_le_of_lt (unsg_size s) hs)
  obtain ⟨t, ht⟩ : ∃ t, unsg s = t := ⟨_, rfl⟩
  have hB : begB s = (allDig t && decide (t.size ≤ 15)) := by unfold begB; rw [ht]
  rw [hB]
  rw [ht] at HS
  have HT := Lib.hid ht
  clear hB ht hs
  go_enter Try.func17, Try.ntmps17
  go_wp2_with (go_at_call 40; refine (sign_walk 40 (.inl rfl) _ _).mono ?_; rintro e w' ⟨rfl, rfl⟩; rw [HT.out])
  go_loop [3] (fun i => ∃ k : Nat, k ≤ t.size ∧ i = .int .i64 k ∧ Hid (∀ j, j < k → isDig (bt t j) = true)) (fun i => t.size - (intOf i).toNat)
  case atStart => exact ⟨0, by omega, rfl, fun j hj => absurd hj (by omega)⟩
  case round =>
    obtain ⟨k, hk, rfl, hall⟩ := hrel
    by_cases hlt : k < t.size
    · have hb := bt_eq hlt
      have hw : IntKind.i64.wrap ((k : Int) + 1) = (k : Int) + 1 := IntWalk.i64_in _ (by have := HS.out; omega)
      cases hd : isDig (bt t k)
      · have hN : Hid ((allDig t && decide (t.size ≤ 15)) = false) := by show _ = _; rw [allDig_false hlt hd]; rfl
        rcases not_dig hd with h1 | ⟨h1, h2⟩
        · have g1 : decide ((bt t k : Int) < 48) = true := by simp; omega
          clear h1 hd
          go_wp2
          go_ret
          exact ⟨by rw [hN.out]; rfl, rfl⟩
        · have g1 : decide ((bt t k : Int) < 48) = false := by simp; omega
          have g2 : decide ((57 : Int) < (bt t k : Int)) = true := by simp; omega
          clear h1 h2 hd
          go_wp2
          go_ret
          exact ⟨by rw [hN.out]; rfl, rfl⟩
      · have hall2 : Hid (∀ j, j < k + 1 → isDig (bt t j) = true) := fun j hj => by
          rcases Nat.lt_or_ge j k with z | z
          · exact hall.out j z
          · rw [show j = k by omega]; exact hd
        obtain ⟨h1, h2⟩ := dig_of hd
        have g1 : decide ((bt t k : Int) < 48) = false := by simp; omega
        have g2 : decide ((57 : Int) < (bt t k : Int)) = false := by simp; omega
        clear h1 h2 hd
        go_wp2
        go_round
        case rel => exact ⟨k + 1, by omega, by go_num, hall2⟩
        case measure => simp [intOf]; omega
    · obtain rfl : k = t.size := by omega
      have hN : Hid ((allDig t && decide (t.size ≤ 15)) = decide ((t.size : Int) ≤ 15)) := by show _ = _; rw [allDig_true hall.out, Bool.true_and]; congr 1; exact propext (by omega)
      go_wp2
      go_ret
      exact ⟨by rw [hN.out]; rfl, rfl⟩
theorem rbegins (s : ByteArray) (hs : s.size < 2 ^ 62) (w : World) : Calls Try.prog 18 #[.string s] w fun e w' => e = .returned (.bool (begB s)) ∧ w = w' := by
  have HS := Lib.hid (Nat.lt_of_le_of_lt (unsg_size s) hs)
  obtain ⟨t, ht⟩ : ∃ t, unsg s = t := ⟨_, rfl⟩
  have hB : begB s = (allDig t && decide (t.size ≤ 15)) := by unfold begB; rw [ht]
  rw [hB]
  rw [ht] at HS
  have HT := Lib.hid ht
  clear hB ht hs
  cases hd : allDig t
  · have hn : digN t = -1 := by unfold digN; rw [hd]; rfl
    have HN := Lib.hid hn
    rw [Bool.false_and]
    clear hn hd
    go_enter Try.func18, Try.ntmps18
    go_wp2_with (first | (go_at_call 41; refine (sign_walk 41 (.inr rfl) _ _).mono ?_; rintro e w' ⟨rfl, rfl⟩; rw [HT.out]) | (go_at_call 42; refine (tdigits _ HS.out _).mono ?_; rintro e w' ⟨rfl, rfl⟩; rw [HN.out]))
    go_ret
    exact ⟨rfl, rfl⟩
  · have hn : digN t = t.size := by unfold digN; rw [hd]; rfl
    have HN := Lib.hid hn
    rw [Bool.true_and]
    clear hn hd
    have hq : decide ((0 : Int) ≤ (t.size : Int)) = true := by simp
    have hz : Hid (decide (t.size ≤ 15) = decide ((t.size : Int) ≤ 15)) := by show _ = _; congr 1; exact propext (by omega)
    go_enter Try.func18, Try.ntmps18
    go_wp2_with (first | (go_at_call 41; refine (sign_walk 41 (.inr rfl) _ _).mono ?_; rintro e w' ⟨rfl, rfl⟩; rw [HT.out]) | (go_at_call 42; refine (tdigits _ HS.out _).mono ?_; rintro e w' ⟨rfl, rfl⟩; rw [HN.out]))
    go_ret
    exact ⟨by rw [hz.out]; rfl, rfl⟩
end Go.Proofs.Ytepjdnokkgmhoaa
