/- Walks of the library's sort at uint64: the shift register's Next. -/
import Derived.Test.YtepjdnokkgmhoaaZ1
import Derived.Sort.LotD5
import Derived.Laws.Bits64
import Derived.Laws.Bits64b
namespace Go.Proofs.Ytepjdnokkgmhoaa
open Go.RowKit Go.Sort Go.Proofs
theorem set_set (w : World) (b o : Nat) (u v : Value) : (w.setCell ⟨b, o, none⟩ u).setCell ⟨b, o, none⟩ v = w.setCell ⟨b, o, none⟩ v := by
  rw [setCell_eq, setCell_eq, mapBlock_mapBlock, setCell_eq]
  congr 1
  funext c
  simp
theorem xor_step (X S : Nat) (hX : X < 2 ^ 64) (hS : S < 2 ^ 64) : bits .xor .u64 (X : Int) (S : Int) = ((X ^^^ S : Nat) : Int) ∧ X ^^^ S < 2 ^ 64 :=
  ⟨bits_xor_u64_nat _ _ hX hS, Nat.xor_lt_two_pow hX hS⟩
set_option maxHeartbeats 1000000 in
theorem uNext (b o X : Nat) (hX : X < 18446744073709551616) (w : World) (hc : w.cell? ⟨b, o, none⟩ = some (.int .u64 X)) (hf : w.frozen? ⟨b, o, none⟩ = false) :
    Calls Try.prog 71 #[.pointer (some ⟨b, o, none⟩)] w fun e w' => e = .returned (.int .u64 (xorNextN X : Nat)) ∧ w' = (w.setCell ⟨b, o, none⟩ (.int .u64 (xorNextN X : Nat))).drewN 3 := by
  obtain ⟨A, hA⟩ : ∃ A : Nat, A = X ^^^ (X * 8192 % 18446744073709551616) := ⟨_, rfl⟩
  obtain ⟨B, hB⟩ : ∃ B : Nat, B = A ^^^ (A / 128) := ⟨_, rfl⟩
  obtain ⟨C, hC⟩ : ∃ C : Nat, C = B ^^^ (B * 131072 % 18446744073709551616) := ⟨_, rfl⟩
  obtain ⟨x1, l1⟩ := xor_step X (X * 8192 % 18446744073709551616) hX (by omega)
  rw [← hA] at x1 l1
  obtain ⟨x2, l2⟩ := xor_step A (A / 128) l1 (by omega)
  rw [← hB] at x2 l2
  obtain ⟨x3, _⟩ := xor_step B (B * 131072 % 18446744073709551616) l2 (by omega)
  rw [← hC] at x3
  have e1 : bits .xor .u64 (X : Int) (IntKind.u64.wrap ((X : Int) * 8192)) = (A : Int) := by rw [← x1, IntKind.wrap_u64]; congr 1
  have e2 : bits .xor .u64 (A : Int) ((A : Int) / 128) = (B : Int) := by rw [← x2]; congr 1
  have e3 : bits .xor .u64 (B : Int) (IntKind.u64.wrap ((B : Int) * 131072)) = (C : Int) := by rw [← x3, IntKind.wrap_u64]; congr 1
  have hv : xorNextN X = C := by unfold xorNextN; simp only []; rw [← hA, ← hB, ← hC]
  rw [hv]
  have hss := fun u v => set_set w b o u v
  clear hA hB hC hv x1 x2 x3
  go_enter Try.func71, Try.ntmps71
  go_wp2_with fail
  go_region
  all_goals go_wp2_with fail
  all_goals go_region
  all_goals go_wp2_with fail
  all_goals go_region
  all_goals go_wp2
  go_ret
  exact ⟨rfl, rfl⟩
end Go.Proofs.Ytepjdnokkgmhoaa
