/- Runs: the law's walk. -/
import Derived.Test.YtcbdmaffcjdnbaaS17
namespace Go.Proofs.Ytcbdmaffcjdnbaa
open Go.RowKit Go.Shelf Go.Maps
theorem TOk.mono {m : Nat} {S : TS} (h : TOk m S) : TOk (m + 1) S :=
  ⟨h.o0, by have := h.o1; omega, h.c0, by have := h.c1; omega, h.a0, h.a1, h.t0, h.t1, h.len, fun i hi => (h.each i hi).mono, h.once, h.sum⟩
theorem TOk.re {m : Nat} {S : TS} (h : TOk m S) (W H : Int) : TOk m (reS S W H) := by
  unfold reS
  split
  · exact ⟨h.o0, h.o1, h.c0, h.c1, h.a0, h.a1, h.t0, h.t1, h.len, h.each, h.once, h.sum⟩
  · exact h
theorem TOk.zero (W H : Int) : TOk 0 (S0 W H) := ⟨by simp [S0], by simp [S0], by simp [S0], by simp [S0], by simp [S0], by simp [S0], by simp [S0], by simp [S0], by simp [S0], fun i hi => by simp [S0] at hi, fun i j _ hj => by simp [S0] at hj, by simp [S0, sumC]⟩
theorem TOk.iok {m : Nat} {S : TS} (h : TOk m S) (hm : m ≤ 1000) : IOk S.ks := ⟨h.len, fun i hi => (h.each i hi).2.2.2.2.2.2, h.once, fun i hi => ⟨(h.each i hi).1, by have := (h.each i hi).2.1; omega⟩⟩
/-- What the loop keeps. -/
structure Keep (w : World) (b mb rb k : Nat) (S : TS) (ov lv : Value) (wr : World) : Prop where
  tal : TalI wr w.heap.size b mb k ov S
  ok : TOk k S
  box : RBoxS wr rb S lv
  row : wr.ownsRow w.heap.size 56 4 lv S.ks.length (rflat S.ks)
  bel : Below w.heap.size w wr
  lr : w.heap.size ≤ rb
theorem Keep.below {w : World} {b mb rb k : Nat} {S : TS} {ov lv : Value} {wr w' : World} (h : Keep w b mb rb k S ov lv wr) (hB : Below wr.heap.size wr w') : Keep w b mb rb k S ov lv w' :=
  ⟨h.tal.below hB, h.ok, h.box.keep hB, row_kept h.row (fun j hj => by obtain ⟨cur, hg, _⟩ := row_block h.row hj; exact hB.block j (Array.getElem?_eq_some_iff.1 hg).1), h.bel.trans (hB.mono h.bel.size), h.lr⟩
theorem Keep.next {w : World} {b mb rb k : Nat} {S : TS} {ov lv : Value} {wr : World} (h : Keep w b mb rb k S ov lv wr) : Keep w b mb rb (k + 1) S ov lv wr :=
  ⟨h.tal.more, h.ok.mono, h.box, h.row, h.bel, h.lr⟩
/-- The blocks are apart. -/
theorem Keep.sep {w : World} {b mb rb k : Nat} {S : TS} {ov lv : Value} {wr : World} (h : Keep w b mb rb k S ov lv wr) : rb ≠ b ∧ rb ≠ mb ∧ (∀ j, ov.ownBlock = some j → rb ≠ j) ∧ (∀ j, lv.ownBlock = some j → rb ≠ j ∧ j ≠ b ∧ j ≠ mb ∧ ∀ i, ov.ownBlock = some i → j ≠ i) := by
  have hb := h.box
  unfold RBoxS RBox at hb
  have hc := h.tal.cells
  unfold TCells at hc
  obtain ⟨D, n, _, ⟨es, clock, hm, _⟩, _⟩ := h.tal.map
  refine ⟨fun e => ?_, fun e => ?_, fun j hj e => ?_, fun j hj => ?_⟩
  · subst e; rw [hb] at hc; simp at hc
  · subst e; rw [hb] at hm; cases hm
  · obtain ⟨cur, hg, _⟩ := row_block h.tal.row hj
    subst e; rw [hb] at hg; simp at hg
  · obtain ⟨cur, hg, _⟩ := row_block h.row hj
    refine ⟨fun e => ?_, fun e => ?_, fun e => ?_, fun i hi e => ?_⟩
    · subst e; rw [hb] at hg; simp at hg
    · subst e; rw [hc] at hg; simp at hg
    · subst e; rw [hm] at hg; cases hg
    · obtain ⟨cur2, hg2, _⟩ := row_block h.tal.row hi
      subst e; rw [hg] at hg2; simp at hg2
/-- Behind a call that turns the tally alone. -/
theorem Keep.tally {w : World} {b mb rb k k' : Nat} {S S' : TS} {ov ov' lv : Value} {wr w' : World} (h : Keep w b mb rb k S ov lv wr) (hT : TalI w' w.heap.size b mb k' ov' S') (hB : But (b :: mb :: ownL ov) wr w') :
    RBoxS w' rb S lv ∧ w'.ownsRow w.heap.size 56 4 lv S.ks.length (rflat S.ks) ∧ Below w.heap.size w w' := by
  obtain ⟨s1, s2, s3, s4⟩ := h.sep
  refine ⟨hB.heap h.box ?_, row_kept h.row (fun j hj => ?_), h.bel.trans (hB.toBelow h.bel.size (fun j hj => ?_))⟩
  · simp only [List.mem_cons, not_or]
    exact ⟨s1, s2, fun q => s3 rb (by simpa [ownL] using q) rfl⟩
  · obtain ⟨cur, hg, _⟩ := row_block h.row hj
    obtain ⟨q1, q2, q3, q4⟩ := s4 j hj
    refine hB.block j (Array.getElem?_eq_some_iff.1 hg).1 ?_
    simp only [List.mem_cons, not_or]
    exact ⟨q2, q3, fun q => q4 j (by simpa [ownL] using q) rfl⟩
  · simp only [List.mem_cons] at hj
    rcases hj with rfl | rfl | hj
    · exact h.tal.lb
    · exact h.tal.lm
    · obtain ⟨cur, hg, hl⟩ := row_block h.tal.row (j := j) (by simpa [ownL] using hj)
      exact hl
/-- Behind a store into the reference's box. -/
theorem TalI.rbox {wr w' : World} {n0 b mb k rb : Nat} {S' : TS} {ov : Value} {a1 a2 a3 a4 a5 a6 a7 : Value} (h : TalI wr n0 b mb k ov S') (hb : RBox wr rb a1 a2 a3 a4 a5 a6 a7) (hB : But [rb] wr w') : TalI w' n0 b mb k ov S' := by
  unfold RBox at hb
  refine h.keep hB (fun j hj cur => ?_) ?_
  · simp at hj; subst hj; rw [hb]; exact ⟨by simp, by simp⟩
  · simp only [List.mem_singleton]
    intro e
    obtain ⟨D, n, _, ⟨es, clock, hm, _⟩, _⟩ := h.map
    subst e; rw [hb] at hm; cases hm
theorem row_rbox {wr w' : World} {n0 rb n : Nat} {lv : Value} {xs : List Value} {a1 a2 a3 a4 a5 a6 a7 : Value} (h : wr.ownsRow n0 56 4 lv n xs) (hb : RBox wr rb a1 a2 a3 a4 a5 a6 a7) (hB : But [rb] wr w') : w'.ownsRow n0 56 4 lv n xs := by
  unfold RBox at hb
  refine row_kept h (fun j hj => ?_)
  obtain ⟨cur, hg, _⟩ := row_block h hj
  refine hB.block j (Array.getElem?_eq_some_iff.1 hg).1 ?_
  simp only [List.mem_singleton]
  intro e
  subst e; rw [hb] at hg; simp at hg
end Go.Proofs.Ytcbdmaffcjdnbaa
