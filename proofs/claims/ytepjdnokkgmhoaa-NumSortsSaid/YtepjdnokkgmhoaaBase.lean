/- Own lemmas that name no program: floats as whole numbers in their order; keys. -/
import Derived.WalkKit
import Derived.Laws.FloatArith
import Derived.Lib.Hide
import Derived.WalkSmall
namespace Go.Proofs.Ytepjdnokkgmhoaa
open Go.RowKit

theorem ret_int {k : IntKind} {a b : Int} (h : a = b) : Ending.returned (.int k a) = .returned (.int k b) := by rw [h]
theorem ret_bool {a b : Bool} (h : a = b) : Ending.returned (.bool a) = .returned (.bool b) := by rw [h]
theorem ret_tuple2 {a b c d : Value} (h : a = c) (k : b = d) : Ending.returned (.tuple #[a, b]) = .returned (.tuple #[c, d]) := by rw [h, k]
theorem bcell {W w1 : World} (hb : Below W.heap.size W w1) : (∀ b o, b < W.heap.size → w1.cell? ⟨b, o, none⟩ = W.cell? ⟨b, o, none⟩) ∧ (∀ b o, b < W.heap.size → w1.frozen? ⟨b, o, none⟩ = W.frozen? ⟨b, o, none⟩) :=
  ⟨fun b o h => hb.cell (p := ⟨b, o, none⟩) h, fun b o h => hb.frozen (p := ⟨b, o, none⟩) h⟩

/-! ### The highest bit -/
theorem and_top (x : Nat) (h : x < 2 ^ 64) : x &&& 2 ^ 63 = if x < 2 ^ 63 then 0 else 2 ^ 63 := by
  apply Nat.eq_of_testBit_eq
  intro i
  rw [Nat.testBit_and]
  by_cases hi : i = 63
  · subst hi
    rw [Nat.testBit_two_pow_self, Bool.and_true]
    split
    · rename_i hlt; rw [Nat.testBit_lt_two_pow hlt]; simp
    · rw [Nat.testBit_two_pow_self, Nat.testBit_eq_decide_div_mod_eq]
      have : x / 2 ^ 63 = 1 := by omega
      rw [this]; rfl
  · rw [Nat.testBit_two_pow_of_ne (by omega), Bool.and_false]
    split
    · simp
    · rw [Nat.testBit_two_pow_of_ne (by omega)]
theorem or_top (x : Nat) (h : x < 2 ^ 63) : x ||| 2 ^ 63 = x + 2 ^ 63 := by
  rw [Nat.or_comm, Nat.add_comm]
  exact (Nat.two_pow_add_eq_or_of_lt h 1 |>.symm ▸ by simp)
theorem xor_top (y : Nat) (h : y < 2 ^ 63) : (y + 2 ^ 63) ^^^ 2 ^ 63 = y := by
  apply Nat.eq_of_testBit_eq
  intro i
  rw [Nat.testBit_xor, Nat.add_comm]
  rcases Nat.lt_trichotomy i 63 with hi | hi | hi
  · rw [Nat.testBit_two_pow_add_gt hi, Nat.testBit_two_pow_of_ne (by omega)]; simp
  · subst hi; rw [Nat.testBit_two_pow_add_eq, Nat.testBit_two_pow_self, Nat.testBit_lt_two_pow h]; rfl
  · have h1 : (2 ^ 63 + y).testBit i = false := Nat.testBit_lt_two_pow (Nat.lt_of_lt_of_le (show 2 ^ 63 + y < 2 ^ 64 by omega) (Nat.pow_le_pow_right (by omega) hi))
    have h2 : y.testBit i = false := Nat.testBit_lt_two_pow (Nat.lt_of_lt_of_le h (Nat.pow_le_pow_right (by omega) (by omega)))
    rw [h1, h2, Nat.testBit_two_pow_of_ne (by omega)]; rfl
theorem ofInt_nat (a : Nat) (ha : a < 2 ^ 64) : (BitVec.ofInt 64 (a : Int)).toNat = a := by
  rw [BitVec.ofInt_natCast, BitVec.toNat_ofNat]; exact Nat.mod_eq_of_lt ha
theorem bits_and_def (a b : Int) : bits .and .u64 a b = IntKind.u64.wrap ((BitVec.ofInt 64 a &&& BitVec.ofInt 64 b).toNat : Int) := rfl
theorem bits_or_def (a b : Int) : bits .or .u64 a b = IntKind.u64.wrap ((BitVec.ofInt 64 a ||| BitVec.ofInt 64 b).toNat : Int) := rfl
theorem bits_xor_def (a b : Int) : bits .xor .u64 a b = IntKind.u64.wrap ((BitVec.ofInt 64 a ^^^ BitVec.ofInt 64 b).toNat : Int) := rfl
theorem bits_andNot_def (a b : Int) : bits .andNot .u64 a b = IntKind.u64.wrap ((BitVec.ofInt 64 a &&& ~~~BitVec.ofInt 64 b).toNat : Int) := rfl
theorem top_cast : (9223372036854775808 : Int) = ((2 ^ 63 : Nat) : Int) := by decide
theorem u64_and_top (x : Nat) (h : x < 2 ^ 64) : bits .and .u64 (x : Int) 9223372036854775808 = if x < 2 ^ 63 then 0 else 9223372036854775808 := by
  rw [top_cast, bits_and_def, BitVec.toNat_and, ofInt_nat x h, ofInt_nat _ (by decide), and_top x h, IntKind.wrap_u64]
  split <;> omega
theorem u64_or_top (x : Nat) (h : x < 2 ^ 63) : bits .or .u64 (x : Int) 9223372036854775808 = ((x + 9223372036854775808 : Nat) : Int) := by
  rw [top_cast, bits_or_def, BitVec.toNat_or, ofInt_nat x (by omega), ofInt_nat _ (by decide), or_top x h, IntKind.wrap_u64]
  omega
theorem u64_xor_top (x : Nat) (h1 : 2 ^ 63 ≤ x) (h2 : x < 2 ^ 64) : bits .xor .u64 (x : Int) 9223372036854775808 = ((x - 9223372036854775808 : Nat) : Int) := by
  obtain ⟨y, rfl⟩ : ∃ y, x = y + 2 ^ 63 := ⟨x - 2 ^ 63, by omega⟩
  rw [top_cast, bits_xor_def, BitVec.toNat_xor, ofInt_nat _ h2, ofInt_nat _ (by decide), xor_top y (by omega), IntKind.wrap_u64]
  omega
theorem u64_not (x : Nat) (h : x < 2 ^ 64) : bits .xor .u64 IntKind.u64.max (x : Int) = ((18446744073709551615 - x : Nat) : Int) := by
  have e : BitVec.ofInt 64 IntKind.u64.max = BitVec.allOnes 64 := by rfl
  rw [bits_xor_def, e, BitVec.xor_comm, BitVec.xor_allOnes, BitVec.toNat_not, ofInt_nat x h, IntKind.wrap_u64]
  omega
end Go.Proofs.Ytepjdnokkgmhoaa
