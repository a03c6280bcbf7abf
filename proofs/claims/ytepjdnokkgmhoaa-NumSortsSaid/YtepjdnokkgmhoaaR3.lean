/- Whole texts' numbers. -/
import Derived.Test.YtepjdnokkgmhoaaR2
import Derived.Lib.Strings
namespace Go.Proofs.Ytepjdnokkgmhoaa
open Go.RowKit Go.Shelf
theorem empty_test (t : ByteArray) : t.toList.isEmpty = decide (t.size = 0) := by
  rw [ByteArray.toList_eq, ByteArray.size, ← Array.length_toList]
  cases t.data.toList <;> simp
/-- The number of the first k digits. -/
def numP (t : ByteArray) : Nat → Nat
  | 0 => 0
  | k + 1 => 10 * numP t k + (bt t k - 48)
theorem numP_lt {t : ByteArray} (h : allDig t = true) (k : Nat) (hk : k ≤ t.size) : numP t k < 10 ^ k := by
  induction k with
  | zero => simp [numP]
  | succ k ih =>
    have h1 := ih (by omega)
    have h2 := dig_of (allDig_of h k (by omega))
    rw [numP, Nat.pow_succ]; omega
def readOk (s : ByteArray) : Bool := !(decide ((unsg s).size = 0)) && begB s
def readN (s : ByteArray) : Int := if readOk s then (if sgn s then -(numP (unsg s) (unsg s).size : Int) else (numP (unsg s) (unsg s).size : Int)) else 0
def readE (s : ByteArray) : Int := if readOk s then 0 else 7
theorem numP_15 {t : ByteArray} (h : allDig t = true) (hz : t.size ≤ 15) (k : Nat) (hk : k ≤ t.size) : numP t k < 10 ^ 15 :=
  Nat.lt_of_lt_of_le (numP_lt h k hk) (Nat.pow_le_pow_right (by omega) (by omega))
set_option maxHeartbeats 1000000 in
theorem tread (s : ByteArray) (hs : s.size < 2 ^ 62) (w : World) : Calls Try.prog 14 #[.string s] w fun e w' => e = .returned (.tuple #[.int .i64 (readN s), .int .i64 (readE s)]) ∧ w = w' := by
  have HB := Lib.hid (tbegins s hs)
  have HS := Lib.hid (Nat.lt_of_le_of_lt (unsg_size s) hs)
  obtain ⟨t, ht⟩ : ∃ t, unsg s = t := ⟨_, rfl⟩
  rw [ht] at HS
  have e3 : readOk s = (!(decide (t.size = 0)) && begB s) := by unfold readOk; rw [ht]
  have e4 : begB s = (allDig t && decide (t.size ≤ 15)) := by unfold begB; rw [ht]
  obtain ⟨N, e1⟩ : ∃ N, readN s = N := ⟨_, rfl⟩
  obtain ⟨E, e2⟩ : ∃ E, readE s = E := ⟨_, rfl⟩
  obtain ⟨g, hg⟩ : ∃ g, sgn s = g := ⟨_, rfl⟩
  rw [e1, e2]
  have HT := Lib.hid ht
  have HG := Lib.hid hg
  by_cases hok : readOk s = true
  · have q : ¬ t.size = 0 ∧ allDig t = true ∧ t.size ≤ 15 := by
      rw [e3, e4] at hok; simpa using hok
    obtain ⟨q1, q2, q3⟩ := q
    have hbb : begB s = true := by rw [e4, q2]; simpa using q3
    have HBB := Lib.hid hbb
    have hE : Hid (E = 0) := by show _ = _; rw [← e2, readE, hok]; rfl
    have hN : Hid (N = if g then -(numP t t.size : Int) else (numP t t.size : Int)) := by show _ = _; rw [← e1, readN, hok, ht, hg]; rfl
    have HA := Lib.hid q2
    have HP := Lib.hid (numP_15 q2 q3)
    have h9 : t.toList.isEmpty = false := by rw [empty_test]; simpa using q1
    have hq1 : decide ((t.size : Int) < 1) = false := by simp; omega
    have hq2 : decide ((15 : Int) < (t.size : Int)) = false := by simp; omega
    clear e1 e2 e3 e4 ht hg hok q2 hbb hs q1 q3
    cases g
    all_goals
      go_enter Try.func14, Try.ntmps14
      go_wp2_with (first | (go_at_call 40; refine (sign_walk 40 (.inl rfl) _ _).mono ?_; rintro e w' ⟨rfl, rfl⟩; rw [HT.out, HG.out]) | (go_at_call 17; refine (HB.out _).mono ?_; rintro e w' ⟨rfl, rfl⟩; rw [HBB.out]))
      go_loop [6, 7] (fun n i => ∃ k : Nat, k ≤ t.size ∧ i = .int .i64 k ∧ n = .int .i64 (numP t k : Nat)) (fun _ i => t.size - (intOf i).toNat)
      case atStart => exact ⟨0, by omega, rfl, rfl⟩
      case round =>
        obtain ⟨k, hk, rfl, rfl⟩ := hrel
        by_cases hlt : k < t.size
        · have hb := bt_eq hlt
          have hd := dig_of (allDig_of HA.out k hlt)
          have hp := HP.out k hk
          have hp2 := HP.out (k + 1) (by omega)
          have hz := HS.out
          have w0 : IntKind.i64.wrap ((k : Int) + 1) = (k : Int) + 1 := IntWalk.i64_in _ (by omega)
          have w1 : IntKind.i64.wrap (10 * (numP t k : Int)) = 10 * (numP t k : Int) := IntWalk.i64_in _ (by omega)
          have w1' : IntKind.i64.wrap ((numP t k : Int) * 10) = 10 * (numP t k : Int) := by rw [Int.mul_comm]; exact w1
          have w2 : IntKind.u8.wrap ((bt t k : Int) - 48) = (bt t k : Int) - 48 := IntWalk.u8_in _ (by omega)
          have w3 : IntKind.i64.wrap ((bt t k : Int) - 48) = (bt t k : Int) - 48 := IntWalk.i64_in _ (by omega)
          have w4 : IntKind.i64.wrap (10 * (numP t k : Int) + ((bt t k : Int) - 48)) = ((numP t (k + 1) : Nat) : Int) := by rw [IntWalk.i64_in _ (by omega), numP]; omega
          clear hp hp2 hz hd
          go_wp2
          go_round
          case rel => exact ⟨k + 1, by omega, by go_num, rfl⟩
          case measure => simp [intOf]; omega
        · obtain rfl : k = t.size := by omega
          have hp := HP.out _ hk
          have w5 : IntKind.i64.wrap (-(numP t t.size : Int)) = -(numP t t.size : Int) := IntWalk.i64_in _ (by omega)
          clear hp
          go_wp2
          go_ret2
          exact ⟨by rw [hN.out, hE.out]; rfl, rfl⟩
  · have hN : Hid (N = 0) := by show _ = _; rw [← e1, readN, if_neg hok]
    have hE : Hid (E = 7) := by show _ = _; rw [← e2, readE, if_neg hok]
    by_cases h0 : t.size = 0
    · have h9 : t.toList.isEmpty = true := by rw [empty_test]; simpa using h0
      clear e1 e2 e3 e4 ht hg hok hs h0
      go_enter Try.func14, Try.ntmps14
      go_wp2_with (first | (go_at_call 40; refine (sign_walk 40 (.inl rfl) _ _).mono ?_; rintro e w' ⟨rfl, rfl⟩; rw [HT.out, HG.out]) | (go_at_call 17; refine (HB.out _).mono ?_; rintro e w' ⟨rfl, rfl⟩))
      go_ret2
      exact ⟨by rw [hN.out, hE.out]; rfl, rfl⟩
    · have h9 : t.toList.isEmpty = false := by rw [empty_test]; simpa using h0
      have hbb : begB s = false := by
        cases hb : begB s
        · rfl
        · exact absurd (by rw [e3, hb]; simpa using h0) hok
      have HBB := Lib.hid hbb
      clear e1 e2 e3 e4 ht hg hok hs h0 hbb
      go_enter Try.func14, Try.ntmps14
      go_wp2_with (first | (go_at_call 40; refine (sign_walk 40 (.inl rfl) _ _).mono ?_; rintro e w' ⟨rfl, rfl⟩; rw [HT.out, HG.out]) | (go_at_call 17; refine (HB.out _).mono ?_; rintro e w' ⟨rfl, rfl⟩; rw [HBB.out]))
      go_ret2
      exact ⟨by rw [hN.out, hE.out]; rfl, rfl⟩

set_option maxHeartbeats 1000000 in
theorem rread (s : ByteArray) (hs : s.size < 2 ^ 62) (w : World) : Calls Try.prog 15 #[.string s] w fun e w' => e = .returned (.tuple #[.int .i64 (readN s), .int .i64 (readE s)]) ∧ w = w' := by
  have HS := Lib.hid (Nat.lt_of_le_of_lt (unsg_size s) hs)
  obtain ⟨t, ht⟩ : ∃ t, unsg s = t := ⟨_, rfl⟩
  rw [ht] at HS
  have e3 : readOk s = (!(decide (t.size = 0)) && begB s) := by unfold readOk; rw [ht]
  have e4 : begB s = (allDig t && decide (t.size ≤ 15)) := by unfold begB; rw [ht]
  obtain ⟨N, e1⟩ : ∃ N, readN s = N := ⟨_, rfl⟩
  obtain ⟨E, e2⟩ : ∃ E, readE s = E := ⟨_, rfl⟩
  obtain ⟨g, hg⟩ : ∃ g, sgn s = g := ⟨_, rfl⟩
  rw [e1, e2]
  have HT := Lib.hid ht
  have HG := Lib.hid hg
  by_cases hok : readOk s = true
  · have q : ¬ t.size = 0 ∧ allDig t = true ∧ t.size ≤ 15 := by
      rw [e3, e4] at hok; simpa using hok
    obtain ⟨q1, q2, q3⟩ := q
    have hdn : digN t = t.size := by unfold digN; rw [q2]; rfl
    have HDN := Lib.hid hdn
    have hE : Hid (E = 0) := by show _ = _; rw [← e2, readE, hok]; rfl
    have hN : Hid (N = if g then -(numP t t.size : Int) else (numP t t.size : Int)) := by show _ = _; rw [← e1, readN, hok, ht, hg]; rfl
    have HA := Lib.hid q2
    have HP := Lib.hid (numP_15 q2 q3)
    have h9 : t.toList.isEmpty = false := by rw [empty_test]; simpa using q1
    have hq1 : decide ((t.size : Int) < 1) = false := by simp; omega
    have hq2 : decide ((15 : Int) < (t.size : Int)) = false := by simp; omega
    clear e1 e2 e3 e4 ht hg hok q2 hdn hs q1 q3
    cases g
    all_goals
      go_enter Try.func15, Try.ntmps15
      go_wp2_with (first | (go_at_call 41; refine (sign_walk 41 (.inr rfl) _ _).mono ?_; rintro e w' ⟨rfl, rfl⟩; rw [HT.out, HG.out]) | (go_at_call 42; refine (tdigits t HS.out _).mono ?_; rintro e w' ⟨rfl, rfl⟩; rw [HDN.out]))
      go_loop [6, 7] (fun n i => ∃ k : Nat, k ≤ t.size ∧ i = .int .i64 k ∧ n = .int .i64 (numP t k : Nat)) (fun _ i => t.size - (intOf i).toNat)
      case atStart => exact ⟨0, by omega, rfl, rfl⟩
      case round =>
        obtain ⟨k, hk, rfl, rfl⟩ := hrel
        by_cases hlt : k < t.size
        · have hb := bt_eq hlt
          have hd := dig_of (allDig_of HA.out k hlt)
          have hp := HP.out k hk
          have hp2 := HP.out (k + 1) (by omega)
          have hz := HS.out
          have w0 : IntKind.i64.wrap ((k : Int) + 1) = (k : Int) + 1 := IntWalk.i64_in _ (by omega)
          have w1 : IntKind.i64.wrap (10 * (numP t k : Int)) = 10 * (numP t k : Int) := IntWalk.i64_in _ (by omega)
          have w1' : IntKind.i64.wrap ((numP t k : Int) * 10) = 10 * (numP t k : Int) := by rw [Int.mul_comm]; exact w1
          have w2 : IntKind.u8.wrap ((bt t k : Int) - 48) = (bt t k : Int) - 48 := IntWalk.u8_in _ (by omega)
          have w3 : IntKind.i64.wrap ((bt t k : Int) - 48) = (bt t k : Int) - 48 := IntWalk.i64_in _ (by omega)
          have w4 : IntKind.i64.wrap (10 * (numP t k : Int) + ((bt t k : Int) - 48)) = ((numP t (k + 1) : Nat) : Int) := by rw [IntWalk.i64_in _ (by omega), numP]; omega
          clear hp hp2 hz hd
          go_wp2
          go_round
          case rel => exact ⟨k + 1, by omega, by go_num, rfl⟩
          case measure => simp [intOf]; omega
        · obtain rfl : k = t.size := by omega
          have hp := HP.out _ hk
          have w5 : IntKind.i64.wrap (-(numP t t.size : Int)) = -(numP t t.size : Int) := IntWalk.i64_in _ (by omega)
          clear hp
          go_wp2
          go_ret2
          exact ⟨by rw [hN.out, hE.out]; rfl, rfl⟩
  · have hN : Hid (N = 0) := by show _ = _; rw [← e1, readN, if_neg hok]
    have hE : Hid (E = 7) := by show _ = _; rw [← e2, readE, if_neg hok]
    have hdn : digN t < 1 ∨ (1 ≤ digN t ∧ 15 < digN t) := by
      rcases Int.lt_or_le (digN t) 1 with z | z
      · exact .inl z
      · refine .inr ⟨z, ?_⟩
        rw [e3, e4] at hok
        unfold digN at z ⊢
        cases hd : allDig t
        · rw [hd] at z; simp at z
        · rw [hd] at z hok
          simp only [if_true] at z ⊢
          simp only [Bool.true_and, Bool.and_eq_true, Bool.not_eq_true', decide_eq_false_iff_not, decide_eq_true_eq] at hok
          omega
    obtain ⟨D, hD⟩ : ∃ D, digN t = D := ⟨_, rfl⟩
    rw [hD] at hdn
    have HDN := Lib.hid hD
    rcases hdn with z | ⟨z1, z2⟩
    · have g1 : decide (D < 1) = true := by simpa using z
      clear e1 e2 e3 e4 ht hg hok hs hD z
      go_enter Try.func15, Try.ntmps15
      go_wp2_with (first | (go_at_call 41; refine (sign_walk 41 (.inr rfl) _ _).mono ?_; rintro e w' ⟨rfl, rfl⟩; rw [HT.out, HG.out]) | (go_at_call 42; refine (tdigits t HS.out _).mono ?_; rintro e w' ⟨rfl, rfl⟩; rw [HDN.out]))
      go_ret2
      exact ⟨by rw [hN.out, hE.out]; rfl, rfl⟩
    · have g1 : decide (D < 1) = false := by simp; omega
      have g2 : decide (15 < D) = true := by simpa using z2
      clear e1 e2 e3 e4 ht hg hok hs hD z1 z2
      go_enter Try.func15, Try.ntmps15
      go_wp2_with (first | (go_at_call 41; refine (sign_walk 41 (.inr rfl) _ _).mono ?_; rintro e w' ⟨rfl, rfl⟩; rw [HT.out, HG.out]) | (go_at_call 42; refine (tdigits t HS.out _).mono ?_; rintro e w' ⟨rfl, rfl⟩; rw [HDN.out]))
      go_ret2
      exact ⟨by rw [hN.out, hE.out]; rfl, rfl⟩

end Go.Proofs.Ytepjdnokkgmhoaa
