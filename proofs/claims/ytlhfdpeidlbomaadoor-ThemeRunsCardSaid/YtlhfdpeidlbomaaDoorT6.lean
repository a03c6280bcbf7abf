/- Walks: Words where a style may not be; with. -/
import Derived.Test.YtlhfdpeidlbomaaDoorT5
namespace Go.Proofs.YtlhfdpeidlbomaaDoor
open Go.RowKit Go.Shelf
set_option maxRecDepth 100000 in
set_option maxHeartbeats 2000000 in
theorem wwords_no (y : Sty) (h : ¬ y.may) (w : World) : Calls Tryd.prog 7 #[y.v] w fun e w' => e = .returned (.tuple #[.string ⟨#[]⟩, .int .i64 310]) ∧ Below w.heap.size w w' := by
  have HY := Lib.hid (fun W => wmay y W)
  have hmb : mayB y = false := decide_eq_false h
  rw [hmb] at HY
  clear h hmb
  obtain ⟨b, u, i, f, g⟩ := y
  unfold Sty.v at HY ⊢
  simp only [] at HY ⊢
  go_enter Tryd.func7, Tryd.ntmps7
  go_wp2_with (first | (go_at_call 22; fail))
  go_at_call 22
  refine (HY.out _).mono ?_
  rintro e w1 ⟨rfl, hb1⟩
  go_wp2
  go_ret2
  exact ⟨rfl, ((Below.refl w.heap.size w).alloc (Nat.le_refl _) _).trans (below_le hb1 (by simp))⟩
set_option maxRecDepth 100000 in
set_option maxHeartbeats 4000000 in
theorem wwordsR_no (y : Sty) (h : ¬ y.may) (w : World) : Calls Tryd.prog 8 #[y.v] w fun e w' => e = .returned (.tuple #[.string ⟨#[]⟩, .int .i64 310]) ∧ Below w.heap.size w w' := by
  obtain ⟨b, u, i, f, g⟩ := y
  have hm : ¬ (0 ≤ f ∧ f ≤ 8 ∧ 0 ≤ g ∧ g ≤ 8) := h
  have H : Hid (decide (f < 0) = false → decide (8 < f) = false → decide (g < 0) = false → decide (8 < g) = false → False) := Lib.hid (fun a b c d => hm (by simp only [decide_eq_false_iff_not] at a b c d; omega))
  clear h hm
  unfold Sty.v
  simp only []
  cases h1 : decide (f < 0) <;> cases h2 : decide (8 < f) <;> cases h3 : decide (g < 0) <;> cases h4 : decide (8 < g)
  · exact (H.out h1 h2 h3 h4).elim
  all_goals (
    clear H
    go_enter Tryd.func8, Tryd.ntmps8
    go_wp2_with (go_at_call 25; refine (wcolours _).mono ?_; rintro e w1 ⟨rfl, rfl⟩)
    go_ret2
    exact ⟨rfl, ((Below.refl w.heap.size w).alloc (Nat.le_refl _) _).alloc (by simp) _⟩)
theorem wcutp (s p : Bs) (w : World) : Calls Tryd.prog 42 #[.string (tx s), .string (tx p)] w fun e w' => e = .returned (.tuple #[.string (tx (Lib.trimPrefix s p)), .bool (Lib.hasPrefix s p)]) ∧ w = w' := by
  refine (Tryd.strings_CutPrefix (tx s) (tx p) w).mono ?_
  rintro e w' ⟨rfl, rfl⟩
  exact ⟨rfl, rfl⟩
/-- The state of with: the style in its box, the result's box. -/
structure WT (w : World) (y : Sty) (wx : World) : Prop where
  box : StyAt wx w.heap.size y
  res : StyAt wx (w.heap.size + 1) sty0
  bel : Below w.heap.size w wx
theorem WT.start (w : World) (y : Sty) : WT w y ((w.alloc (.cells (styCells y) 23)).alloc (.cells (styCells sty0) 23)) :=
  ⟨(heap_alloc_old _ _ (by simp)).trans (heap_alloc_new _ _), by have := heap_alloc_new (w.alloc (.cells (styCells y) 23)) (.cells (styCells sty0) 23); unfold StyAt; simpa using this, ((Below.refl w.heap.size w).alloc (Nat.le_refl _) _).alloc (by simp) _⟩
theorem WT.set {w wx : World} {y y' : Sty} (h : WT w y wx) (o : Nat) (v : Value) (e : (styCells y).setIfInBounds o v = styCells y') : WT w y' (wx.setCell ⟨w.heap.size, o, none⟩ v) :=
  ⟨by have := set_block h.box v (o := o); rw [e] at this; exact this, (set_other (by omega)).trans h.res, h.bel.setCell (p := ⟨w.heap.size, o, none⟩) (Nat.le_refl _) v⟩
def WithEnd (y : Sty) (s : Bs) (w : World) (e : Ending) (w' : World) : Prop := e = .returned (withW y s).v ∧ Below w.heap.size w w'
theorem StyAt.stored {w : World} {b : Nat} {y0 : Sty} (h : StyAt w b y0) (y : Sty) : (((((w.setCell ⟨b, 0, none⟩ (.bool y.b)).setCell ⟨b, 1, none⟩ (.bool y.u)).setCell ⟨b, 2, none⟩ (.bool y.i)).setCell ⟨b, 3, none⟩ (.int .i64 y.f)).setCell ⟨b, 4, none⟩ (.int .i64 y.g)).heap[b]? = some (.cells (styCells y) 23 (0, 0)) :=
  set_block (set_block (set_block (set_block (set_block h _) _) _) _) _
theorem below_stored {n : Nat} {w0 w : World} (h : Below n w0 w) {b : Nat} (hb : n ≤ b) {v0 v1 v2 v3 v4 : Value} : Below n w0 (((((w.setCell ⟨b, 0, none⟩ v0).setCell ⟨b, 1, none⟩ v1).setCell ⟨b, 2, none⟩ v2).setCell ⟨b, 3, none⟩ v3).setCell ⟨b, 4, none⟩ v4) :=
  ((((h.setCell (p := ⟨b, 0, none⟩) hb v0).setCell (p := ⟨b, 1, none⟩) hb v1).setCell (p := ⟨b, 2, none⟩) hb v2).setCell (p := ⟨b, 3, none⟩) hb v3).setCell (p := ⟨b, 4, none⟩) hb v4
set_option maxRecDepth 100000 in
set_option maxHeartbeats 4000000 in
theorem wwith (y : Sty) (s : Bs) (w : World) : Calls Tryd.prog 28 #[y.v, .string (tx s)] w (WithEnd y s w) := by
  have C2 : Hid (∀ W, Calls Tryd.prog 42 #[.string (tx s), .string ⟨#[102, 103, 45]⟩] W fun e w' => e = .returned (.tuple #[.string (tx (Lib.trimPrefix s fgL)), .bool (Lib.hasPrefix s fgL)]) ∧ W = w') := Lib.hid (fun W => wcutp s fgL W)
  have C3 : Hid (∀ W, Calls Tryd.prog 42 #[.string (tx s), .string ⟨#[98, 103, 45]⟩] W fun e w' => e = .returned (.tuple #[.string (tx (Lib.trimPrefix s bgL)), .bool (Lib.hasPrefix s bgL)]) ∧ W = w') := Lib.hid (fun W => wcutp s bgL W)
  have N2 := Lib.hid (fun W => wnumber (Lib.trimPrefix s fgL) W)
  have N3 := Lib.hid (fun W => wnumber (Lib.trimPrefix s bgL) W)
  obtain ⟨y1, hy1⟩ : ∃ y1, y1 = set1 y s := ⟨_, rfl⟩
  obtain ⟨y2, hy2⟩ : ∃ y2, y2 = set2 y1 s := ⟨_, rfl⟩
  obtain ⟨y3, hy3⟩ : ∃ y3, y3 = set3 y2 s := ⟨_, rfl⟩
  have HY1 := Lib.hid hy1
  have HE : Hid (withW y s = y3) := by
    have e : withW y s = y3 := by rw [hy3, hy2, hy1]; rfl
    exact Lib.hid e
  unfold set2 at hy2
  unfold set3 at hy3
  obtain ⟨P2, hP2⟩ : ∃ P, P = Lib.hasPrefix s fgL := ⟨_, rfl⟩
  obtain ⟨P3, hP3⟩ : ∃ P, P = Lib.hasPrefix s bgL := ⟨_, rfl⟩
  obtain ⟨R2, hR2⟩ : ∃ P, P = Lib.trimPrefix s fgL := ⟨_, rfl⟩
  obtain ⟨R3, hR3⟩ : ∃ P, P = Lib.trimPrefix s bgL := ⟨_, rfl⟩
  rw [← hP2, ← hR2] at hy2
  rw [← hP3, ← hR3] at hy3
  rw [← hP2, ← hR2] at C2
  rw [← hP3, ← hR3] at C3
  rw [← hR2] at N2
  rw [← hR3] at N3
  have HY2 := Lib.hid hy2
  have HY3 := Lib.hid hy3
  clear hy1 hy2 hy3 hP2 hP3 hR2 hR3
  have e1 : ((tx s).toList == [98, 111, 108, 100]) = decide (s = boldL) := by rw [Bool.eq_iff_iff, beq_iff_eq, decide_eq_true_eq, ByteArray.toList_eq]; exact Iff.rfl
  have e2 : ((tx s).toList == [117, 110, 100, 101, 114]) = decide (s = underL) := by rw [Bool.eq_iff_iff, beq_iff_eq, decide_eq_true_eq, ByteArray.toList_eq]; exact Iff.rfl
  have e3 : ((tx s).toList == [105, 110, 118, 101, 114, 115, 101]) = decide (s = inverseL) := by rw [Bool.eq_iff_iff, beq_iff_eq, decide_eq_true_eq, ByteArray.toList_eq]; exact Iff.rfl
  have H0 := Lib.hid (WT.start w y)
  unfold styCells sty0 at H0
  obtain ⟨b, u, i, f, g⟩ := y
  unfold Sty.v
  simp only [] at H0 ⊢
  go_enter Tryd.func28, Tryd.ntmps28
  go_upto_block 0 with (fail)
  generalize (w.alloc (.cells #[.bool b, .bool u, .bool i, .int .i64 f, .int .i64 g] 23)).alloc (.cells #[.bool false, .bool false, .bool false, .int .i64 0, .int .i64 0] 23) = w1 at H0 ⊢
  obtain ⟨c0, c1, c2, c3, c4, cf, _⟩ := H0.out.box.get
  have f0 := cf 0
  have f1 := cf 1
  have f2 := cf 2
  simp only [] at c0 c1 c2 c3 c4
  clear cf
  go_cut [] (fun wx => Hid (WT w y1 wx))
  case first =>
    have hn : y1 = set1 ⟨b, u, i, f, g⟩ s := HY1.out
    unfold set1 at hn
    by_cases h1 : s = boldL
    · have q1 : decide (s = boldL) = true := decide_eq_true h1
      rw [q1] at e1
      rw [if_pos h1] at hn
      have HN := Lib.hid hn
      clear hn e2 e3 h1 q1
      go_wp2
      go_meet
      rw [HN.out]
      exact Lib.hid (H0.out.set 0 _ rfl)
    · have q1 : decide (s = boldL) = false := decide_eq_false h1
      rw [q1] at e1
      rw [if_neg h1] at hn
      clear q1 h1
      by_cases h2 : s = underL
      · have q1 : decide (s = underL) = true := decide_eq_true h2
        rw [q1] at e2
        rw [if_pos h2] at hn
        have HN := Lib.hid hn
        clear hn e3 h2 q1
        go_wp2
        go_meet
        rw [HN.out]
        exact Lib.hid (H0.out.set 1 _ rfl)
      · have q1 : decide (s = underL) = false := decide_eq_false h2
        rw [q1] at e2
        rw [if_neg h2] at hn
        clear q1 h2
        by_cases h3 : s = inverseL
        · have q1 : decide (s = inverseL) = true := decide_eq_true h3
          rw [q1] at e3
          rw [if_pos h3] at hn
          have HN := Lib.hid hn
          clear hn h3 q1
          go_wp2
          go_meet
          rw [HN.out]
          exact Lib.hid (H0.out.set 2 _ rfl)
        · have q1 : decide (s = inverseL) = false := decide_eq_false h3
          rw [q1] at e3
          rw [if_neg h3] at hn
          have HN := Lib.hid hn
          clear hn h3 q1
          go_wp2
          go_meet
          rw [HN.out]
          exact H0
  clear c0 c1 c2 c3 c4 f0 f1 f2 H0
  have H1 := hcut
  clear hcut
  go_wp2_with (first | (go_at_call 42; fail))
  go_at_call 42
  refine (C2.out _).mono ?_
  rintro e wq2 ⟨rfl, rfl⟩
  obtain ⟨c0, c1, c2, c3, c4, cf, _⟩ := H1.out.box.get
  have f3 := cf 3
  clear cf c0 c1 c2
  go_upto_if 24 with (fail)
  go_cut [] (fun wx => Hid (WT w y2 wx))
  case first =>
    cases P2
    · have HN : Hid (y2 = y1) := by
        have e : y2 = y1 := by rw [HY2.out, if_neg Bool.false_ne_true]
        exact Lib.hid e
      go_wp2
      go_meet
      rw [HN.out]
      exact H1
    · have HN : Hid (y2 = ({ y1 with f := num R2 } : Sty)) := by
        have e : y2 = ({ y1 with f := num R2 } : Sty) := by rw [HY2.out, if_pos rfl]
        exact Lib.hid e
      go_wp2_with (first | (go_at_call 43; (with_reducible refine (N2.out _).mono ?_); rintro e w' ⟨rfl, rfl⟩))
      go_meet
      rw [HN.out]
      exact Lib.hid (H1.out.set 3 _ rfl)
  clear c3 c4 f3 H1 C2 N2
  have H2 := hcut
  clear hcut
  go_wp2_with (first | (go_at_call 42; fail))
  go_at_call 42
  refine (C3.out _).mono ?_
  rintro e wq3 ⟨rfl, rfl⟩
  obtain ⟨c0, c1, c2, c3, c4, cf, _⟩ := H2.out.box.get
  have f4 := cf 4
  clear cf c0 c1 c2
  go_upto_if 33 with (fail)
  go_cut [] (fun wx => Hid (WT w y3 wx))
  case first =>
    cases P3
    · have HN : Hid (y3 = y2) := by
        have e : y3 = y2 := by rw [HY3.out, if_neg Bool.false_ne_true]
        exact Lib.hid e
      go_wp2
      go_meet
      rw [HN.out]
      exact H2
    · have HN : Hid (y3 = ({ y2 with g := num R3 } : Sty)) := by
        have e : y3 = ({ y2 with g := num R3 } : Sty) := by rw [HY3.out, if_pos rfl]
        exact Lib.hid e
      go_wp2_with (first | (go_at_call 43; (with_reducible refine (N3.out _).mono ?_); rintro e w' ⟨rfl, rfl⟩))
      go_meet
      rw [HN.out]
      exact Lib.hid (H2.out.set 4 _ rfl)
  clear c3 c4 f4 H2 C3 N3
  have H3 := hcut
  clear hcut
  obtain ⟨c0, c1, c2, c3, c4, _⟩ := H3.out.box.get
  obtain ⟨d0, d1, d2, d3, d4, df, _⟩ := H3.out.res.get
  have f0 := df 0
  have f1 := df 1
  have f2 := df 2
  have f3 := df 3
  have f4 := df 4
  clear df
  have HR := Lib.hid (H3.out.res.stored y3)
  have HB := Lib.hid (below_stored H3.out.bel (b := w.heap.size + 1) (by omega) (v0 := .bool y3.b) (v1 := .bool y3.u) (v2 := .bool y3.i) (v3 := .int .i64 y3.f) (v4 := .int .i64 y3.g))
  go_wp2
  refine bodyPost_ret (v := y3.v) ?_ rfl ?_
  · exact results_cell rfl _ _ (w.heap.size + 1) 23 (styCells y3) (0, 0) _ rfl HR.out Tryd.underlying23 rfl (by kernel_rfl)
  · rw [show WithEnd ⟨b, u, i, f, g⟩ s w = fun e w' => e = .returned (withW ⟨b, u, i, f, g⟩ s).v ∧ Below w.heap.size w w' from rfl]
    exact ⟨by rw [HE.out], HB.out⟩
end Go.Proofs.YtlhfdpeidlbomaaDoor
