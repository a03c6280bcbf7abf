/- The readers of parts, all together. -/
import Derived.Test.YtfalcmbjjlgoaaaGreatDoorQH
namespace Go.Proofs.YtfalcmbjjlgoaaaGreatDoor
open Go.RowKit Go.Shelf
theorem wparts (s : Bs) (ok : Bool) (hs : s.length ≤ 1000000) : ∀ n k, k ≤ n →
    PC valV s ok 38 .or 11 k ∧ PC valV s ok 56 .and 9 k ∧ PC valV s ok 78 .not 7 k ∧ PC valV s ok 96 .sum 6 k ∧
    PC valV s ok 105 .prod 4 k ∧ PC valV s ok 115 .signed 2 k ∧ PC valV s ok 123 .atom 1 k := by
  intro n
  induction n with
  | zero =>
    intro k hk
    obtain rfl : k = 0 := by omega
    exact ⟨fun r ts w h => by omega, fun r ts w h => by omega, fun r ts w h => by omega, fun r ts w h => by omega, fun r ts w h => by omega, fun r ts w h => by omega, fun r ts w h => by omega⟩
  | succ n ih =>
    intro k hk
    by_cases h : k ≤ n
    · exact ih k h
    · obtain rfl : k = n + 1 := by omega
      exact ⟨wor_step valV s ok hs n (fun k h => (ih k h).2.1), wand_step valV s ok hs n (fun k h => (ih k h).2.2.1), wnot_step valV s ok hs n (fun k h => (ih k h).2.2.1) (fun k h => (ih k h).2.2.2.1),
        wsum_step valV s ok hs n (fun k h => (ih k h).2.2.2.2.1), wproduct_step valV s ok hs n (fun k h => (ih k h).2.2.2.2.2.1), wsigned_step valV s ok hs n (fun k h => (ih k h).2.2.2.2.2.1) (fun k h => (ih k h).2.2.2.2.2.2),
        watom_step s ok hs n (fun k h => (ih k h).1)⟩
/-- The whole text, read. -/
theorem wreadOr (s : Bs) (ok : Bool) (hs : s.length ≤ 1000000) (n r : Nat) (ts : List Tok) (w : World) (hn : 12 * ts.length + 11 ≤ n) (hst : St r s ok ts w) :
    Calls Tryz.prog 38 #[.pointer (some ⟨r, 0, none⟩)] w (PEnd r s ok (P valV ok n .or ts) w) :=
  (wparts s ok hs n n (Nat.le_refl _)).1 r ts w hn hst
end Go.Proofs.YtfalcmbjjlgoaaaGreatDoor
