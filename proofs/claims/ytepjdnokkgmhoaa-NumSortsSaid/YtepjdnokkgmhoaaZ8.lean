/- Walks of the library's sort at uint64: nextPowerOfTwo. -/
import Derived.Test.YtepjdnokkgmhoaaZ7
import Derived.Test.YtepjdnokkgmhoaaShelf
import Derived.Sort.WalkA14
namespace Go.Proofs.Ytepjdnokkgmhoaa
open Go.RowKit Go.Sort Go.Proofs
theorem uLen (n : Nat) (hn : n < 4611686018427387904) (w : World) : Calls Try.prog 57 #[.int .u64 (n : Int)] w fun e w' => e = .returned (.int .i64 (bitsLen n : Nat)) ∧ w' = w := by
  have h := Try.bits_Len (n : Int) w (by omega) (by omega)
  rwa [Int.toNat_natCast, bitLen_eq _ (by omega)] at h
theorem shl_pow (k : Nat) (hk : k ≤ 62) : IntKind.u64.wrap ((2 : Int) ^ k) = ((1 <<< k : Nat) : Int) := by
  have h : (2 : Nat) ^ k ≤ 2 ^ 62 := Nat.pow_le_pow_right (by decide) hk
  rw [IntKind.wrap_u64, Nat.one_shiftLeft, show ((2 : Int) ^ k) = ((2 ^ k : Nat) : Int) by push_cast; rfl]
  generalize (2 : Nat) ^ k = p at h
  omega
theorem uPow2 (n : Nat) (hn : n < 4611686018427387904) (w : World) : Calls Try.prog 70 #[.int .i64 n] w fun e w' => e = .returned (.int .u64 ((1 <<< bitsLen n : Nat) : Int)) ∧ w' = w := by
  have hL := Lib.hid (fun W => uLen n hn W)
  have hk : bitsLen n ≤ 62 := (bitsLen_le_iff n 62).2 (by omega)
  have hp := shl_pow (bitsLen n) hk
  generalize bitsLen n = k at hL hk hp ⊢
  go_enter Try.func70, Try.ntmps70
  go_wp2_with (first | (go_at_call 57; refine (hL.out _).mono ?_; rintro e w' ⟨rfl, rfl⟩))
  go_ret
  exact ⟨rfl, rfl⟩
end Go.Proofs.Ytepjdnokkgmhoaa
