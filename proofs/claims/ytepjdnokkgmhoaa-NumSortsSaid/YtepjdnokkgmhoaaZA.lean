/- Walks of the library's sort at uint64: Sort, over what pdqsort does. -/
import Derived.Test.YtepjdnokkgmhoaaZ8
namespace Go.Proofs.Ytepjdnokkgmhoaa
open Go.RowKit Go.Sort Go.Proofs
/-- What pdqsort answers with at a row. -/
def PdqU (blk off cap : Nat) (d : Array Int) (w : World) : Prop := Calls Try.prog 56 #[.slice (some ⟨blk, off, none⟩) d.size cap, .int .i64 0, .int .i64 (d.size : Int), .int .i64 (bitsLen d.size : Nat)] w fun e w' =>
  e = .returned (.tuple #[]) ∧ ∃ n os, w' = grow (putRow encU (Sort.ahead w n) blk off (Sort.sort ltInt d)) os
theorem uSort (blk off cap : Nat) (d : Array Int) (w : World) (hsz : d.size < 4611686018427387904) (H : PdqU blk off cap d w) :
    Calls Try.prog 54 #[.slice (some ⟨blk, off, none⟩) d.size cap] w fun e w' => e = .returned (.tuple #[]) ∧ ∃ n os, w' = grow (putRow encU (Sort.ahead w n) blk off (Sort.sort ltInt d)) os := by
  have hL := Lib.hid (fun W => uLen d.size hsz W)
  have HP := Lib.hid H
  unfold PdqU at HP
  obtain ⟨N, hN⟩ : ∃ N, N = d.size := ⟨_, rfl⟩
  rw [← hN] at hL HP hsz ⊢
  generalize bitsLen N = L at hL HP
  clear H hN
  go_enter Try.func54, Try.ntmps54
  go_wp2_with (first | (go_at_call 57; refine (hL.out _).mono ?_; rintro e w' ⟨rfl, rfl⟩) | (go_at_call 56; fail))
  go_at_call 56
  refine (HP.out).mono ?_
  rintro e w1 ⟨rfl, n, os, rfl⟩
  go_wp2
  go_end0
  exact ⟨rfl, n, os, rfl⟩
end Go.Proofs.Ytepjdnokkgmhoaa
