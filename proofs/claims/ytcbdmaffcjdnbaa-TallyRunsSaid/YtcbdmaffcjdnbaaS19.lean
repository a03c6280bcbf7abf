/- Runs: what is kept while both note. -/
import Derived.Test.YtcbdmaffcjdnbaaS18
namespace Go.Proofs.Ytcbdmaffcjdnbaa
open Go.RowKit Go.Shelf Go.Maps
/-- The call's own box. -/
def OBox (w : World) (j : Nat) (s : ByteArray) (n h : Int) : Prop := w.heap[j]? = some (.cells #[.bool false, .string s, .int .i64 n, .int .i64 h] 62 (0, 0))
theorem OBox.get {w : World} {j : Nat} {s : ByteArray} {n h : Int} (hb : OBox w j s n h) : w.cell? ⟨j, 1, none⟩ = some (.string s) ∧ w.cell? ⟨j, 2, none⟩ = some (.int .i64 n) ∧ j < w.heap.size := by
  unfold OBox at hb
  exact ⟨by simp [World.cell?, hb], by simp [World.cell?, hb], (Array.getElem?_eq_some_iff.1 hb).1⟩
/-- A tally that stands as S, the reference's as S2. -/
structure Two (w : World) (b mb rb k jo : Nat) (S S2 : TS) (ov lv : Value) (s : ByteArray) (n h : Int) (wr : World) : Prop where
  tal : TalI wr w.heap.size b mb k ov S
  box : RBoxS wr rb S2 lv
  row : wr.ownsRow w.heap.size 56 4 lv S2.ks.length (rflat S2.ks)
  bel : Below w.heap.size w wr
  lr : w.heap.size ≤ rb
  obx : OBox wr jo s n h
theorem Two.below {w : World} {b mb rb k jo : Nat} {S S2 : TS} {ov lv : Value} {s : ByteArray} {n h : Int} {wr w' : World} (H : Two w b mb rb k jo S S2 ov lv s n h wr) (hB : Below wr.heap.size wr w') : Two w b mb rb k jo S S2 ov lv s n h w' :=
  ⟨H.tal.below hB, H.box.keep hB, row_kept H.row (fun j hj => by obtain ⟨cur, hg, _⟩ := row_block H.row hj; exact hB.block j (Array.getElem?_eq_some_iff.1 hg).1), H.bel.trans (hB.mono H.bel.size), H.lr, (hB.block jo H.obx.get.2.2).trans H.obx⟩
theorem Two.tally {w : World} {b mb rb k k' jo : Nat} {S S' S2 : TS} {ov ov' lv : Value} {s : ByteArray} {n h : Int} {wr w' : World} (H : Two w b mb rb k jo S S2 ov lv s n h wr) (hT : TalI w' w.heap.size b mb k' ov' S') (hB : But (b :: mb :: ownL ov) wr w') : Two w b mb rb k' jo S' S2 ov' lv s n h w' := by
  have hb := H.box
  unfold RBoxS RBox at hb
  have ho := H.obx
  unfold OBox at ho
  have hc := H.tal.cells
  unfold TCells at hc
  obtain ⟨D, c, _, ⟨es, clock, hm, _⟩, _⟩ := H.tal.map
  have hne : ∀ j, (∃ cs t, wr.heap[j]? = some (.cells cs t (0, 0)) ∧ t ≠ 42 ∧ t ≠ 9) → j ∉ b :: mb :: ownL ov := by
    rintro j ⟨cs, t, hj, h1, h2⟩ q
    simp only [List.mem_cons] at q
    rcases q with rfl | rfl | q
    · rw [hc] at hj; simp at hj; exact h1 hj.2.symm
    · rw [hm] at hj; cases hj
    · obtain ⟨cur, hg, _⟩ := row_block H.tal.row (j := j) (by simpa [ownL] using q)
      rw [hg] at hj; simp at hj; exact h2 hj.2.symm
  refine ⟨hT, hB.heap H.box (hne rb ⟨_, _, hb, by decide, by decide⟩), row_kept H.row (fun j hj => ?_), H.bel.trans (hB.toBelow H.bel.size (fun j hj => ?_)), H.lr, hB.heap H.obx (hne jo ⟨_, _, ho, by decide, by decide⟩)⟩
  · obtain ⟨cur, hg, _⟩ := row_block H.row hj
    exact hB.block j (Array.getElem?_eq_some_iff.1 hg).1 (hne j ⟨_, _, hg, by decide, by decide⟩)
  · simp only [List.mem_cons] at hj
    rcases hj with rfl | rfl | hj
    · exact H.tal.lb
    · exact H.tal.lm
    · obtain ⟨cur, hg, hl⟩ := row_block H.tal.row (j := j) (by simpa [ownL] using hj)
      exact hl
abbrev Set7 (w : World) (rb : Nat) (a b c d e f g : Value) : World := ((((((w.setCell ⟨rb, 0, none⟩ a).setCell ⟨rb, 1, none⟩ b).setCell ⟨rb, 2, none⟩ c).setCell ⟨rb, 3, none⟩ d).setCell ⟨rb, 4, none⟩ e).setCell ⟨rb, 5, none⟩ f).setCell ⟨rb, 6, none⟩ g
theorem Two.put {w : World} {b mb rb k jo : Nat} {S S2 S3 : TS} {ov lv lv3 : Value} {s : ByteArray} {n h : Int} {wr : World} (H : Two w b mb rb k jo S S2 ov lv s n h wr) (hr : wr.ownsRow w.heap.size 56 4 lv3 S3.ks.length (rflat S3.ks)) :
    Two w b mb rb k jo S S3 ov lv3 s n h (Set7 wr rb (.int .i64 S3.bound) (.int .i64 S3.over) lv3 (.string ByteArray.empty) (.int .i64 S3.c) (.int .i64 S3.a) (.int .i64 S3.t)) := by
  have hbut : But [rb] wr (Set7 wr rb (.int .i64 S3.bound) (.int .i64 S3.over) lv3 (.string ByteArray.empty) (.int .i64 S3.c) (.int .i64 S3.a) (.int .i64 S3.t)) := (((((((But.refl _ _).set _ _ (by simp)).set _ _ (by simp)).set _ _ (by simp)).set _ _ (by simp)).set _ _ (by simp)).set _ _ (by simp)).set _ _ (by simp)
  have hb := H.box
  unfold RBoxS at hb
  have ho := H.obx
  refine ⟨H.tal.rbox hb hbut, ?_, row_rbox hr hb hbut, H.bel.trans (hbut.toBelow H.bel.size (fun j hj => by simp at hj; have := H.lr; omega)), H.lr, hbut.heap ho ?_⟩
  · exact (((((((hb.upd 0 _ rfl).upd 1 _ rfl).upd 2 _ rfl).upd 3 _ rfl).upd 4 _ rfl).upd 5 _ rfl).upd 6 _ rfl)
  · simp only [List.mem_singleton]
    intro e
    subst e
    unfold OBox at ho
    unfold RBox at hb
    rw [ho] at hb; simp at hb
end Go.Proofs.Ytcbdmaffcjdnbaa
