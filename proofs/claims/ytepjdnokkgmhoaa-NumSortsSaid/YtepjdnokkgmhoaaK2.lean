/- Walks: numbers of keys, orders. -/
import Derived.Test.YtepjdnokkgmhoaaK1
namespace Go.Proofs.Ytepjdnokkgmhoaa
open Go.RowKit
def ofX (k : Nat) : Nat := if keyN (ofB k) = k then ofB k else 0
def ofOk (k : Nat) : Bool := decide (keyN (ofB k) = k)
def rofX (k : Nat) : Nat := if k = 18446744073709551615 then 9221120237041090561 else if isNan (ofB k) then 0 else ofB k
def rofOk (k : Nat) : Bool := decide (k = 18446744073709551615) || !isNan (ofB k)
theorem rof_ok (k : Nat) (h : k < 2 ^ 64) : rofOk k = ofOk k := by
  unfold rofOk ofOk
  by_cases hk : k = 18446744073709551615
  · subst hk; rw [Go.Proofs.Ytepjdnokkgmhoaa.key_nan _ ofB_greatest]; simp
  · cases hn : isNan (ofB k)
    · simp [key_ofB k h hn]
    · rw [Go.Proofs.Ytepjdnokkgmhoaa.key_nan _ hn]; simp [hk, Ne.symm hk]
theorem rof_same (k : Nat) (h : k < 2 ^ 64) : keyN (rofX k) = keyN (ofX k) := by
  unfold rofX ofX
  by_cases hk : k = 18446744073709551615
  · subst hk; rw [Go.Proofs.Ytepjdnokkgmhoaa.key_nan _ ofB_greatest, if_pos rfl, if_pos rfl, Go.Proofs.Ytepjdnokkgmhoaa.key_nan _ ofB_greatest, Go.Proofs.Ytepjdnokkgmhoaa.key_nan _ (by decide)]
  · rw [if_neg hk]
    cases hn : isNan (ofB k)
    · rw [if_pos (key_ofB k h hn)]; simp
    · rw [Go.Proofs.Ytepjdnokkgmhoaa.key_nan _ hn, if_neg (Ne.symm hk)]; simp
theorem cast_beq (a b : Nat) : ((a : Int) == (b : Int)) = (a == b) := by rw [Bool.eq_iff_iff]; simp only [beq_iff_eq]; omega
def ordN (a b : Nat) : Int := if keyN a < keyN b then -1 else if keyN b < keyN a then 1 else 0
set_option maxHeartbeats 400000 in
theorem tsame (a b : Nat) (ha : a < 18446744073709551616) (hb : b < 18446744073709551616) (w : World) : Calls Try.prog 11 #[.float .f64 a, .float .f64 b] w fun e w' => e = .returned (.bool (keyN a == keyN b)) ∧ w = w' := by
  have HA := Lib.hid ha
  have HB := Lib.hid hb
  clear ha hb
  go_enter Try.func11, Try.ntmps11
  go_wp2_with fail
  refine (rkey a HA.out w).mono ?_
  rintro e w' ⟨rfl, rfl⟩
  go_wp2_with fail
  refine (rkey b HB.out w).mono ?_
  rintro e w' ⟨rfl, rfl⟩
  go_wp2_with fail
  go_ret
  exact ⟨ret_bool (cast_beq _ _), rfl⟩
set_option maxHeartbeats 400000 in
theorem torder (a b : Nat) (ha : a < 18446744073709551616) (hb : b < 18446744073709551616) (w : World) : Calls Try.prog 33 #[.float .f64 a, .float .f64 b] w fun e w' => e = .returned (.int .i64 (ordN a b)) ∧ w = w' := by
  have HA := Lib.hid ha
  have HB := Lib.hid hb
  have E : Hid (ordN a b = if keyN a < keyN b then -1 else if keyN b < keyN a then 1 else 0) := rfl
  clear ha hb
  go_enter Try.func33, Try.ntmps33
  go_wp2_with fail
  refine (tkey a HA.out w).mono ?_
  rintro e w' ⟨rfl, rfl⟩
  go_wp2_with fail
  refine (tkey b HB.out w).mono ?_
  rintro e w' ⟨rfl, rfl⟩
  go_wp2_with fail
  all_goals
    go_ret
    exact ⟨ret_int (by rw [E.out]; simp [*] <;> omega), rfl⟩
set_option maxHeartbeats 400000 in
theorem rorder (a b : Nat) (ha : a < 18446744073709551616) (hb : b < 18446744073709551616) (w : World) : Calls Try.prog 34 #[.float .f64 a, .float .f64 b] w fun e w' => e = .returned (.int .i64 (ordN a b)) ∧ w = w' := by
  have HA := Lib.hid ha
  have HB := Lib.hid hb
  have E : Hid (ordN a b = if keyN a < keyN b then -1 else if keyN b < keyN a then 1 else 0) := rfl
  clear ha hb
  go_enter Try.func34, Try.ntmps34
  go_wp2_with (first | (go_at_call 32; (with_reducible refine (rkey a HA.out w).mono ?_); rintro e w' ⟨rfl, rfl⟩) | (go_at_call 32; (with_reducible refine (rkey b HB.out w).mono ?_); rintro e w' ⟨rfl, rfl⟩))
  all_goals
    go_ret
    exact ⟨ret_int (by rw [E.out]; simp [*] <;> omega), rfl⟩
theorem call_nan (w : World) : (callFunc 51 #[.int .u64 9221120237041090561]).run Try.prog w = .ok (.value (.float .f64 9221120237041090561)) w := call_float 9221120237041090561 w
theorem tnan (w : World) : Calls Try.prog 52 #[] w fun e w' => e = .returned (.float .f64 9221120237041090561) ∧ w = w' := by
  have h1 := call_nan
  go_enter Try.func52, Try.ntmps52
  go_wp2_with fail
  go_ret
  exact ⟨rfl, rfl⟩
set_option maxRecDepth 100000 in
set_option maxHeartbeats 400000 in
theorem tof (k : Nat) (hk : k < 18446744073709551616) (w : World) : Calls Try.prog 29 #[.int .u64 k] w fun e w' => e = .returned (.tuple #[.float .f64 (ofX k), .bool (ofOk k)]) ∧ w = w' := by
  have hb := call_float
  have hsg : IntKind.u64.signed = false := rfl
  have hK := Lib.hid (ofB_lt k hk)
  by_cases hq : keyN (ofB k) = k
  · have e1 : ofX k = ofB k := by simp [ofX, hq]
    have e2 : ofOk k = true := by simp [ofOk, hq]
    rw [e1, e2]
    have E := Lib.hid hq
    rcases Nat.lt_or_ge k (2 ^ 63) with h | h
    · have e : ofB k = 18446744073709551615 - k := by unfold ofB; rw [if_pos (by omega)]
      have a := u64_and_top k (by omega)
      rw [if_pos h] at a
      have o := u64_not k hk
      rw [← e] at o
      clear e1 e2 hq h hk e
      go_enter Try.func29, Try.ntmps29
      go_wp2_with (go_at_call 31; refine (tkey _ hK.out _).mono ?_; rintro e w' ⟨rfl, rfl⟩; rw [E.out])
      go_ret2
      exact ⟨rfl, rfl⟩
    · have e : ofB k = k - 9223372036854775808 := by unfold ofB; rw [if_neg (by omega)]
      have a := u64_and_top k (by omega)
      rw [if_neg (by omega)] at a
      have o := u64_xor_top k h hk
      rw [← e] at o
      have hmm := Lib.hid hk
      clear e1 e2 hq h hk e
      go_enter Try.func29, Try.ntmps29
      go_wp2_with (go_at_call 31; refine (tkey _ hK.out _).mono ?_; rintro e w' ⟨rfl, rfl⟩; rw [E.out])
      go_ret2
      exact ⟨rfl, rfl⟩
  · have e1 : ofX k = 0 := by simp [ofX, hq]
    have e2 : ofOk k = false := by simp [ofOk, hq]
    rw [e1, e2]
    have E : ((keyN (ofB k) : Int) != (k : Int)) = true := by simp; omega
    rcases Nat.lt_or_ge k (2 ^ 63) with h | h
    · have e : ofB k = 18446744073709551615 - k := by unfold ofB; rw [if_pos (by omega)]
      have a := u64_and_top k (by omega)
      rw [if_pos h] at a
      have o := u64_not k hk
      rw [← e] at o
      clear e1 e2 hq h hk e
      go_enter Try.func29, Try.ntmps29
      go_wp2_with (go_at_call 31; refine (tkey _ hK.out _).mono ?_; rintro e w' ⟨rfl, rfl⟩)
      go_ret2
      exact ⟨rfl, rfl⟩
    · have e : ofB k = k - 9223372036854775808 := by unfold ofB; rw [if_neg (by omega)]
      have a := u64_and_top k (by omega)
      rw [if_neg (by omega)] at a
      have o := u64_xor_top k h hk
      rw [← e] at o
      clear e1 e2 hq h hk e
      go_enter Try.func29, Try.ntmps29
      go_wp2_with (go_at_call 31; refine (tkey _ hK.out _).mono ?_; rintro e w' ⟨rfl, rfl⟩)
      go_ret2
      exact ⟨rfl, rfl⟩
set_option maxHeartbeats 400000 in
theorem rof_max (w : World) (k : Nat) (t : ((k : Int) == 18446744073709551615) = true) : Calls Try.prog 30 #[.int .u64 k] w fun e w' => e = .returned (.tuple #[.float .f64 9221120237041090561, .bool true]) ∧ w = w' := by
  go_enter Try.func30, Try.ntmps30
  go_wp2_with (go_at_call 52; refine (tnan _).mono ?_; rintro e w' ⟨rfl, rfl⟩)
  go_ret2
  exact ⟨rfl, rfl⟩
set_option maxHeartbeats 400000 in
theorem rof_low (w : World) (k b : Nat) (t : ((k : Int) == 18446744073709551615) = false) (t2 : decide ((9223372036854775808 : Int) ≤ (k : Int)) = false)
    (s1 : IntKind.u64.wrap (18446744073709551615 - (k : Int)) = (b : Int)) : Calls Try.prog 30 #[.int .u64 k] w fun e w' => e = .returned (.tuple (if isNan b then #[.float .f64 0, .bool false] else #[.float .f64 b, .bool true])) ∧ w = w' := by
  have hb := call_float
  cases hn : isNan b
  · have ho := ord_num hn
    simp only [Bool.false_eq_true, if_false]
    clear hn
    go_enter Try.func30, Try.ntmps30
    go_wp2
    go_ret2
    exact ⟨rfl, rfl⟩
  · have ho := ord_nan hn
    simp only [if_true]
    clear hn
    go_enter Try.func30, Try.ntmps30
    go_wp2
    go_ret2
    exact ⟨rfl, rfl⟩
set_option maxHeartbeats 400000 in
theorem rof_high (w : World) (k b : Nat) (t : ((k : Int) == 18446744073709551615) = false) (t2 : decide ((9223372036854775808 : Int) ≤ (k : Int)) = true)
    (s1 : IntKind.u64.wrap (18446744073709551615 - (k : Int)) = ((18446744073709551615 - k : Nat) : Int)) (s2 : IntKind.u64.wrap ((k : Int) - 9223372036854775808) = (b : Int)) : Calls Try.prog 30 #[.int .u64 k] w fun e w' => e = .returned (.tuple (if isNan b then #[.float .f64 0, .bool false] else #[.float .f64 b, .bool true])) ∧ w = w' := by
  have hb := call_float
  cases hn : isNan b
  · have ho := ord_num hn
    simp only [Bool.false_eq_true, if_false]
    clear hn
    go_enter Try.func30, Try.ntmps30
    go_wp2
    go_ret2
    exact ⟨rfl, rfl⟩
  · have ho := ord_nan hn
    simp only [if_true]
    clear hn
    go_enter Try.func30, Try.ntmps30
    go_wp2
    go_ret2
    exact ⟨rfl, rfl⟩
theorem rof (k : Nat) (hk : k < 18446744073709551616) (w : World) : Calls Try.prog 30 #[.int .u64 k] w fun e w' => e = .returned (.tuple #[.float .f64 (rofX k), .bool (rofOk k)]) ∧ w = w' := by
  by_cases hq : k = 18446744073709551615
  · have e1 : rofX k = 9221120237041090561 := by unfold rofX; rw [if_pos hq]
    have e2 : rofOk k = true := by unfold rofOk; rw [decide_eq_true hq]; rfl
    rw [e1, e2]
    exact rof_max w k (by rw [beq_iff_eq]; omega)
  · have t : ((k : Int) == 18446744073709551615) = false := by rw [beq_eq_false_iff_ne]; omega
    have s1 : IntKind.u64.wrap (18446744073709551615 - (k : Int)) = ((18446744073709551615 - k : Nat) : Int) := by rw [IntKind.wrap_u64]; omega
    have fin : (if isNan (ofB k) then #[Value.float .f64 0, .bool false] else #[.float .f64 (ofB k), .bool true]) = #[.float .f64 (rofX k), .bool (rofOk k)] := by
      unfold rofX rofOk
      rw [if_neg hq, decide_eq_false hq]
      generalize ofB k = z
      cases isNan z <;> simp
    rw [← fin]
    rcases Nat.lt_or_ge k (2 ^ 63) with h | h
    · have e : ofB k = 18446744073709551615 - k := by unfold ofB; rw [if_pos (by omega)]
      exact rof_low w k _ t (decide_eq_false (by omega)) (by rw [e]; exact s1)
    · have e : ofB k = k - 9223372036854775808 := by unfold ofB; rw [if_neg (by omega)]
      exact rof_high w k _ t (decide_eq_true (by omega)) s1 (by rw [IntKind.wrap_u64, e]; omega)
end Go.Proofs.Ytepjdnokkgmhoaa
