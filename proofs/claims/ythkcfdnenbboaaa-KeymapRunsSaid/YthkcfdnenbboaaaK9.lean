/- Walks: few and cut. -/
import Derived.Test.YthkcfdnenbboaaaK8
namespace Go.Proofs.Ythkcfdnenbboaaa
open Go.RowKit Go.Shelf
def cutTo (n : Nat) (s : ByteArray) : ByteArray := if n < s.size then s.extract 0 n else s
set_option maxHeartbeats 400000 in
theorem wcut (s : ByteArray) (hs : s.size ≤ maxLen) (w : World) : Calls Try.prog 12 #[.string s] w fun e w' => e = .returned (.string (cutTo 60 s)) ∧ w = w' := by
  unfold maxLen at hs
  by_cases h : 60 < s.size
  · have e : cutTo 60 s = s.extract 0 60 := by rw [cutTo, if_pos h]
    rw [e]
    clear e
    go_enter Try.func12, Try.ntmps12
    go_wp2
    go_ret
    exact ⟨rfl, rfl⟩
  · have e : cutTo 60 s = s := by rw [cutTo, if_neg h]
    rw [e]
    clear e
    go_enter Try.func12, Try.ntmps12
    go_wp2
    go_ret
    exact ⟨rfl, rfl⟩
def Ky.few (k : Ky) : Ky := { k with s := cutTo 40 k.s }
/-- A key that came in. -/
structure Ky.Wide (k : Ky) : Prop where
  c : -9223372036854775808 ≤ k.code ∧ k.code ≤ 9223372036854775807
  n : -9223372036854775808 ≤ k.n ∧ k.n ≤ 9223372036854775807
  s : k.s.size ≤ maxLen
set_option maxHeartbeats 400000 in
theorem wfew (k : Ky) (hk : k.Wide) (w : World) : Calls Try.prog 11 #[k.v] w fun e w' => e = .returned k.few.v ∧ Below w.heap.size w w' := by
  obtain ⟨c, s, n, al, sh, ct⟩ := k
  obtain ⟨hc, hn, hs⟩ := hk
  simp only [] at hc hn hs
  unfold maxLen at hs
  unfold Ky.few Ky.v
  simp only []
  by_cases h : 40 < s.size
  · generalize e : cutTo 40 s = t
    have e2 : s.extract 0 40 = t := by rw [← e, cutTo, if_pos h]
    clear e
    go_enter Try.func11, Try.ntmps11
    go_wp2
    refine bodyPost_ret (results_cell_row rfl _ _ (w.heap.size + 1) 27 _ (0, 0) _ rfl (by have := heap_alloc_new (w.alloc (.cells #[.int .i64 c, .string t, .int .i64 n, .bool al, .bool sh, .bool ct] 27)) (.cells #[.int .i64 c, .string t, .int .i64 n, .bool al, .bool sh, .bool ct] 27); simpa using this) Try.underlying27 rfl (by kernel_rfl)) rfl ?_
    exact ⟨rfl, ((Below.refl _ _).alloc (Nat.le_refl _) _).alloc (by simp) _⟩
  · have e : cutTo 40 s = s := by rw [cutTo, if_neg h]
    rw [e]
    clear e
    go_enter Try.func11, Try.ntmps11
    go_wp2
    refine bodyPost_ret (results_cell_row rfl _ _ (w.heap.size + 1) 27 _ (0, 0) _ rfl (by have := heap_alloc_new (w.alloc (.cells #[.int .i64 c, .string s, .int .i64 n, .bool al, .bool sh, .bool ct] 27)) (.cells #[.int .i64 c, .string s, .int .i64 n, .bool al, .bool sh, .bool ct] 27); simpa using this) Try.underlying27 rfl (by kernel_rfl)) rfl ?_
    exact ⟨rfl, ((Below.refl _ _).alloc (Nat.le_refl _) _).alloc (by simp) _⟩
end Go.Proofs.Ythkcfdnenbboaaa
