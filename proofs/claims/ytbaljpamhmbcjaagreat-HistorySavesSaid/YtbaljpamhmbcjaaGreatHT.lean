/- Walk: the page's example. -/
import Derived.Test.YtbaljpamhmbcjaaGreatHS
namespace Go.Proofs.YtbaljpamhmbcjaaGreat
open Go.RowKit Go.Shelf
/-- The example's history, and nothing old turned. -/
def Ex (w W : World) (L : List Bs) (k : Wk) : Prop := (∃ x c, His W w.heap.size 5 L k x c) ∧ Below w.heap.size w W
theorem Ex.step {w W W' : World} {L L' : List Bs} {k k' : Wk} (h : Ex w W L k) (h2 : ∃ x c, His W' w.heap.size 5 L' k' x c) (hb : But [w.heap.size] W W') : Ex w W' L' k' := by
  refine ⟨h2, h.2.trans (hb.toBelow h.2.size (fun j hj => by simp at hj; omega))⟩
theorem exNew (w : World) : Ex w (w.alloc (.cells #[.int .i64 5, .slice none 0 0, .bool false, .string ⟨#[]⟩, .string ⟨#[]⟩, .int .i64 0] 45)) [] Wk.no :=
  ⟨⟨none, 0, heap_alloc_new _ _, RowL.nil _⟩, (Below.refl _ _).alloc (Nat.le_refl _) _⟩
theorem exAdd {w W : World} {L L' : List Bs} {k : Wk} (h : Ex w W L k) (hL : L.length ≤ 1000) (s : Bs) (hs : s.length ≤ 10) (e : addL 5 L (flatS s) = (true, L')) : Calls Tryz.prog 22 #[.pointer (some ⟨w.heap.size, 0, none⟩), .string (tx s)] W fun e w' => e = .returned (.bool true) ∧ Ex w w' L' Wk.no := by
  obtain ⟨⟨x, c, hh⟩, hb⟩ := h
  refine (wHadd w.heap.size 5 (by omega) (by omega) L hL k x c s (by omega) W hh).mono ?_
  rintro e' w' ⟨h1, h2, h3⟩
  rw [e] at h1 h2
  exact ⟨h1, Ex.step ⟨⟨x, c, hh⟩, hb⟩ h2 h3⟩
theorem exOlder {w W : World} {L : List Bs} {k k' : Wk} (h : Ex w W L k) (hL : L.length ≤ 900) (hk : k.Ok L) (d bg s : Bs) (t : Bool) (e : olderS L k d bg = (k', s, t)) : Calls Tryz.prog 23 #[.pointer (some ⟨w.heap.size, 0, none⟩), .string (tx d), .string (tx bg)] W fun e w' => e = .returned (.tuple #[.string (tx s), .bool t]) ∧ Ex w w' L k' := by
  obtain ⟨⟨x, c, hh⟩, hb⟩ := h
  refine (wHolder w.heap.size 5 (by omega) L hL k hk x c d bg W hh).mono ?_
  rintro e' w' ⟨h1, h2, h3⟩
  rw [e] at h1 h2
  exact ⟨h1, Ex.step ⟨⟨x, c, hh⟩, hb⟩ ⟨x, c, h2⟩ h3⟩
theorem exNewer {w W : World} {L : List Bs} {k k' : Wk} (h : Ex w W L k) (hL : L.length ≤ 900) (hk : k.Ok L) (s : Bs) (t : Bool) (e : newerS L k = (k', s, t)) : Calls Tryz.prog 24 #[.pointer (some ⟨w.heap.size, 0, none⟩)] W fun e w' => e = .returned (.tuple #[.string (tx s), .bool t]) ∧ Ex w w' L k' := by
  obtain ⟨⟨x, c, hh⟩, hb⟩ := h
  refine (wHnewer w.heap.size 5 (by omega) L hL k hk x c W hh).mono ?_
  rintro e' w' ⟨h1, h2, h3⟩
  rw [e] at h1 h2
  exact ⟨h1, Ex.step ⟨⟨x, c, hh⟩, hb⟩ ⟨x, c, h2⟩ h3⟩
theorem exLen {w W : World} {L : List Bs} {k : Wk} (h : Ex w W L k) : Calls Tryz.prog 10 #[.pointer (some ⟨w.heap.size, 0, none⟩)] W fun e w' => e = .returned (.int .i64 L.length) ∧ W = w' := by
  obtain ⟨⟨x, c, hh⟩, hb⟩ := h
  exact wHlen w.heap.size 5 (by omega) L k x c W hh
theorem exSave {w W : World} {L : List Bs} {k : Wk} (h : Ex w W L k) (hL : L.length ≤ 256) (hN : ∀ l ∈ L, l.length ≤ 4000) : Calls Tryz.prog 8 #[.pointer (some ⟨w.heap.size, 0, none⟩)] W fun e w' => e = .returned (.string (tx (saveS L))) ∧ Below w.heap.size w w' := by
  obtain ⟨⟨x, c, hh⟩, hb⟩ := h
  refine (wHsave w.heap.size 5 (by omega) L hL hN k x c W hh).mono ?_
  rintro e' w' ⟨h1, h2⟩
  exact ⟨h1, hb.trans (below_le h2 hb.size)⟩
theorem tx_toList (l : Bs) : (tx l).toList = l := by rw [ByteArray.toList_eq]; simp [tx]
set_option maxRecDepth 100000 in
set_option maxHeartbeats 2000000 in
theorem wawake (w : World) : Calls Tryz.prog 6 #[] w fun e w' => e = .returned (.bool true) ∧ Below w.heap.size w w' := by
  have A1 := Lib.hid (fun W (h : Ex w W [] Wk.no) => exAdd h (by simp) [108, 115] (by simp) ex_add1)
  have A2 := Lib.hid (fun W (h : Ex w W [[108, 115]] Wk.no) => exAdd h (by simp) [99, 97, 116, 32, 120] (by simp) ex_add2)
  have A3 := Lib.hid (fun W (h : Ex w W [[99, 97, 116, 32, 120], [108, 115]] Wk.no) => exAdd h (by simp) [99, 100] (by simp) ex_add3)
  have O1 := Lib.hid (fun W (h : Ex w W exL Wk.no) => exOlder h (by simp [exL]) (fun h => by cases h) [100, 114] [99] _ _ ex_older1)
  have O2 := Lib.hid (fun W (h : Ex w W exL ⟨true, [100, 114], [99], 0⟩) => exOlder h (by simp [exL]) (fun _ => by simp [exL]) [] [] _ _ ex_older2)
  have O3 := Lib.hid (fun W (h : Ex w W exL ⟨true, [100, 114], [99], 1⟩) => exOlder h (by simp [exL]) (fun _ => by simp [exL]) [] [] _ _ ex_older3)
  have N1 := Lib.hid (fun W (h : Ex w W exL ⟨true, [100, 114], [99], 1⟩) => exNewer h (by simp [exL]) (fun _ => by simp [exL]) _ _ ex_newer1)
  have N2 := Lib.hid (fun W (h : Ex w W exL ⟨true, [100, 114], [99], 0⟩) => exNewer h (by simp [exL]) (fun _ => by simp [exL]) _ _ ex_newer2)
  have LN := Lib.hid (fun W (h : Ex w W exL Wk.no) => exLen h)
  have SV := Lib.hid (fun W (h : Ex w W exL Wk.no) => exSave h (by simp [exL]) (by simp [exL]))
  have H0 := Lib.hid (exNew w)
  rw [ex_save] at SV
  have q1 := tx_toList [99, 100]
  have q2 := tx_toList [99, 97, 116, 32, 120]
  have q3 := tx_toList [100, 114]
  have q4 := tx_toList [108, 115, 10, 99, 97, 116, 32, 120, 10, 99, 100, 10]
  go_enter Tryz.func6, Tryz.ntmps6
  go_wp2_with (first | (go_at_call 11; (with_reducible refine (wnewH 5 (by omega) (by omega) _).mono ?_); rintro e w1 ⟨rfl, rfl⟩) | (go_at_call 22; fail))
  go_at_call 22
  refine (A1.out _ H0.out).mono ?_
  rintro e w1 ⟨rfl, h⟩
  have H1 := Lib.hid h
  clear h H0 A1
  go_wp2_with (first | (go_at_call 22; fail))
  go_at_call 22
  refine (A2.out _ H1.out).mono ?_
  rintro e w2 ⟨rfl, h⟩
  have H2 := Lib.hid h
  clear h H1 A2
  go_wp2_with (first | (go_at_call 22; fail))
  go_at_call 22
  refine (A3.out _ H2.out).mono ?_
  rintro e w3 ⟨rfl, h⟩
  have H3 := Lib.hid h
  clear h H2 A3
  go_wp2_with (first | (go_at_call 23; fail))
  go_at_call 23
  refine (O1.out _ H3.out).mono ?_
  rintro e w4 ⟨rfl, h⟩
  have H4 := Lib.hid h
  clear h H3 O1
  go_wp2_with (first | (go_at_call 23; fail))
  go_at_call 23
  refine (O2.out _ H4.out).mono ?_
  rintro e w5 ⟨rfl, h⟩
  have H5 := Lib.hid h
  clear h H4 O2
  go_wp2_with (first | (go_at_call 23; fail))
  go_at_call 23
  refine (O3.out _ H5.out).mono ?_
  rintro e w6 ⟨rfl, h⟩
  have H6 := Lib.hid h
  clear h H5 O3
  go_wp2_with (first | (go_at_call 24; fail))
  go_at_call 24
  refine (N1.out _ H6.out).mono ?_
  rintro e w7 ⟨rfl, h⟩
  have H7 := Lib.hid h
  clear h H6 N1
  go_wp2_with (first | (go_at_call 24; fail))
  go_at_call 24
  refine (N2.out _ H7.out).mono ?_
  rintro e w8 ⟨rfl, h⟩
  have H8 := Lib.hid h
  clear h H7 N2
  go_wp2_with (first | (go_at_call 10; (with_reducible refine (LN.out _ H8.out).mono ?_); rintro e w' ⟨rfl, rfl⟩) | (go_at_call 8; fail))
  go_at_call 8
  refine (SV.out _ H8.out).mono ?_
  rintro e w9 ⟨rfl, h⟩
  have H9 := Lib.hid h
  clear h H8 SV LN
  go_wp2
  go_ret
  exact ⟨rfl, H9.out⟩
end Go.Proofs.YtbaljpamhmbcjaaGreat
