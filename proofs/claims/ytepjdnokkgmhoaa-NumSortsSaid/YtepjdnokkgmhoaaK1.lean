/- Walks: keys of numbers, of the program and of the reference. -/
import Derived.Test.YtepjdnokkgmhoaaProg
import Derived.Test.YtepjdnokkgmhoaaBase
import Derived.Test.YtepjdnokkgmhoaaKey
namespace Go.Proofs.Ytepjdnokkgmhoaa
open Go.RowKit
theorem call_bits (x : Nat) (w : World) : (callFunc 53 #[.float .f64 x]).run Try.prog w = .ok (.value (.int .u64 x)) w := by
  rw [run_callFunc_extern (P := Try.prog) (f := 53) (fn := Try.f53) (e := Extern.MathFloatBits.float64bits) (by kernel_rfl) (by kernel_rfl) (by kernel_rfl) (by kernel_rfl) (by kernel_rfl)]
  rfl
theorem call_float (x : Nat) (w : World) : (callFunc 51 #[.int .u64 (x : Int)]).run Try.prog w = .ok (.value (.float .f64 x)) w := by
  rw [run_callFunc_extern (P := Try.prog) (f := 51) (fn := Try.f51) (e := Extern.MathFloatBits.float64frombits) (by kernel_rfl) (by kernel_rfl) (by kernel_rfl) (by kernel_rfl) (by kernel_rfl)]
  rfl
theorem ord_nan {x : Nat} (h : isNan x = true) : FloatKind.f64.format.order x x = none := order_nan x x (.inl h)
theorem ord_num {x : Nat} (h : isNan x = false) : FloatKind.f64.format.order x x = some .eq := by
  have := order_val x x h h
  rw [show FloatKind.f64.format = Ieee.double from rfl, this]; simp
set_option maxHeartbeats 400000 in
theorem tkey (x : Nat) (hx : x < 18446744073709551616) (w : World) : Calls Try.prog 31 #[.float .f64 x] w fun e w' => e = .returned (.int .u64 (keyN x : Nat)) ∧ w = w' := by
  have hb := call_bits
  have hsg : IntKind.u64.signed = false := rfl
  cases hn : isNan x
  · have ho := ord_num hn
    rcases Nat.lt_or_ge x (2 ^ 63) with h | h
    · have e : keyN x = x + 9223372036854775808 := by unfold keyN; rw [hn]; simp only [Bool.false_eq_true, if_false]; rw [if_pos (by omega)]
      have E := Lib.hid e
      have a := u64_and_top x (by omega)
      rw [if_pos h] at a
      have o := u64_or_top x h
      clear e hn h hx
      go_enter Try.func31, Try.ntmps31
      go_wp2
      go_ret
      exact ⟨ret_int (by rw [E.out]; omega), rfl⟩
    · have e : keyN x = 18446744073709551615 - x := by unfold keyN; rw [hn]; simp only [Bool.false_eq_true, if_false]; rw [if_neg (by omega)]
      have E := Lib.hid e
      have a := u64_and_top x (by omega)
      rw [if_neg (by omega)] at a
      have o := u64_not x (by omega)
      clear e hn h hx
      go_enter Try.func31, Try.ntmps31
      go_wp2
      go_ret
      exact ⟨ret_int (by rw [E.out]), rfl⟩
  · have ho := ord_nan hn
    have E := Lib.hid (Go.Proofs.Ytepjdnokkgmhoaa.key_nan x hn)
    clear hn
    go_enter Try.func31, Try.ntmps31
    go_wp2
    go_ret
    exact ⟨ret_int (by rw [E.out]; rfl), rfl⟩
set_option maxRecDepth 100000 in
set_option maxHeartbeats 400000 in
theorem rkey (x : Nat) (hx : x < 18446744073709551616) (w : World) : Calls Try.prog 32 #[.float .f64 x] w fun e w' => e = .returned (.int .u64 (keyN x : Nat)) ∧ w = w' := by
  have hb := call_bits
  have hsg : IntKind.u64.signed = false := rfl
  cases hn : isNan x
  · have ho := ord_num hn
    rcases Nat.lt_or_ge x (2 ^ 63) with h | h
    · have e : keyN x = x + 9223372036854775808 := by unfold keyN; rw [hn]; simp only [Bool.false_eq_true, if_false]; rw [if_pos (by omega)]
      have E := Lib.hid e
      have ht : decide ((9223372036854775808 : Int) ≤ (x : Int)) = false := by simp; omega
      have hs : IntKind.u64.wrap ((x : Int) + 9223372036854775808) = (x : Int) + 9223372036854775808 := by rw [IntKind.wrap_u64]; omega
      clear e hn hx h
      go_enter Try.func32, Try.ntmps32
      go_wp2
      go_ret
      exact ⟨ret_int (by rw [E.out]; omega), rfl⟩
    · have e : keyN x = 18446744073709551615 - x := by unfold keyN; rw [hn]; simp only [Bool.false_eq_true, if_false]; rw [if_neg (by omega)]
      have E := Lib.hid e
      have ht : decide ((9223372036854775808 : Int) ≤ (x : Int)) = true := by simp; omega
      have hs : IntKind.u64.wrap (18446744073709551615 - (x : Int)) = 18446744073709551615 - (x : Int) := by rw [IntKind.wrap_u64]; omega
      have HX := Lib.hid hx
      clear e hn h hx
      go_enter Try.func32, Try.ntmps32
      go_wp2
      go_ret
      exact ⟨ret_int (by have := HX.out; rw [E.out]; omega), rfl⟩
  · have ho := ord_nan hn
    have E := Lib.hid (Go.Proofs.Ytepjdnokkgmhoaa.key_nan x hn)
    clear hn
    go_enter Try.func32, Try.ntmps32
    go_wp2
    go_ret
    exact ⟨ret_int (by rw [E.out]; rfl), rfl⟩
end Go.Proofs.Ytepjdnokkgmhoaa
