/- The places of a walk, in plain terms; walks of SameAll, begins, Of. -/
import Derived.Test.YtbaljpamhmbcjaaGreatHW
namespace Go.Proofs.YtbaljpamhmbcjaaGreat
open Go.RowKit Go.Shelf
theorem getD_at {T : List Nat} {i : Nat} (hi : i < T.length) : T.getD i 0 = T[i] := by rw [List.getD_eq_getElem?_getD, List.getElem?_eq_getElem hi]; rfl
/-- A row of texts that may be read. -/
def SeesL (w : World) (x : Option Addr) (c : Nat) (L : List Bs) : Prop := L.length ≤ c ∧ L.length ≤ 9223372036854775807 ∧ (0 < L.length → ∃ g, x = some ⟨g, 0, none⟩ ∧ g < w.heap.size ∧ ∀ i, i < L.length → w.cell? ⟨g, i, none⟩ = some (.string (tx (L.getD i []))))
theorem RowL.sees {W : World} {x : Option Addr} {c : Nat} {L : List Bs} (h : RowL W x c L) (hL : L.length ≤ 1000) : SeesL W x c L := ⟨h.cap, by omega, fun hp => by
  obtain ⟨g, h1, h2, _, h4⟩ := h.get 0 hp
  exact ⟨g, h1, h2, h4⟩⟩
theorem SeesL.below {W W' : World} {x : Option Addr} {c : Nat} {L : List Bs} (h : SeesL W x c L) (hB : Below W.heap.size W W') : SeesL W' x c L := ⟨h.1, h.2.1, fun hp => by
  obtain ⟨g, h1, h2, h3⟩ := h.2.2 hp
  exact ⟨g, h1, Nat.lt_of_lt_of_le h2 hB.size, fun i hi => (hB.cell (p := ⟨g, i, none⟩) h2).trans (h3 i hi)⟩⟩
set_option maxHeartbeats 1000000 in
theorem wsame (x y : Option Addr) (c d : Nat) (L : List Bs) (w : World) (hx : SeesL w x c L) (hy : SeesL w y d L) : Calls Tryz.prog 28 #[.slice x L.length c, .slice y L.length d] w fun e w' => e = .returned (.bool true) ∧ Below w.heap.size w w' := by
  have HX := Lib.hid hx
  have HY := Lib.hid hy
  have hm := hx.2.1
  obtain ⟨n, hn⟩ : ∃ n, n = L.length := ⟨_, rfl⟩
  rw [← hn] at hm ⊢
  have HN := Lib.hid hn
  clear hx hy hn
  go_enter Tryz.func28, Tryz.ntmps28
  go_wp2
  go_loopw [5] (fun i wr => ∃ k : Nat, k ≤ n ∧ i = .int .i64 (k : Int) ∧ Hid (∃ m, wr = w.drewN m)) (fun i _ => n - (intOf i).toNat)
  case atStart => exact ⟨0, by omega, rfl, Lib.hid ⟨0, rfl⟩⟩
  case round =>
    obtain ⟨k, hk, rfl, HW⟩ := hrel
    by_cases hlt : k < n
    · obtain ⟨g, rfl, _, hg⟩ := HX.out.2.2 (by have := HN.out; omega)
      obtain ⟨g2, rfl, _, hg2⟩ := HY.out.2.2 (by have := HN.out; omega)
      have ce : wr.cell? ⟨g, k, none⟩ = some (.string (tx (L.getD k []))) := by
        obtain ⟨m, rfl⟩ := HW.out
        have := hg k (by have := HN.out; omega)
        simpa [go_sem] using this
      have ce2 : wr.cell? ⟨g2, k, none⟩ = some (.string (tx (L.getD k []))) := by
        obtain ⟨m, rfl⟩ := HW.out
        have := hg2 k (by have := HN.out; omega)
        simpa [go_sem] using this
      obtain ⟨X, hX⟩ : ∃ X, X = tx (L.getD k []) := ⟨_, rfl⟩
      rw [← hX] at ce ce2
      have i1 : (0 : Int) ≤ (k : Int) := by omega
      have i2 : (k : Int) < (n : Int) := by omega
      clear hg hg2 hX
      go_wp2
      go_quiet (fail)
      go_wp2
      go_roundw
      case rel =>
        obtain ⟨m, rfl⟩ := HW.out
        exact ⟨k + 1, by omega, by go_num, Lib.hid ⟨m + nq, World.drewN_drewN _ _ _⟩⟩
      case measure => simp [intOf]; omega
    · go_wp2
      go_ret
      obtain ⟨m, rfl⟩ := HW.out
      exact ⟨rfl, below_drewN (Below.refl _ _) m⟩
end Go.Proofs.YtbaljpamhmbcjaaGreat
