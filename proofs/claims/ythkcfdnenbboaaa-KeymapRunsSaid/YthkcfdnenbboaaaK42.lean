/- The law KeymapRuns: its state, and that both sides answer alike. -/
import Derived.Test.YthkcfdnenbboaaaK41
namespace Go.Proofs.Ythkcfdnenbboaaa
open Go.RowKit Go.Shelf Go.Maps Go.Sort Go.ChangeMaps
def Good (f : Bnd) : Prop := ∀ s a, f s = some a → 1 ≤ a ∧ a ≤ 19
/-- Both maps stand alike. -/
structure Alike (L : List Bd) (f : Bnd) : Prop where
  rep : Rep L f
  good : Good f
  sz : Sized L
theorem Alike.at {L : List Bd} {f : Bnd} (h : Alike L f) (n : List UInt8) : f.hasN n = dropOk L n ∧ f.actN n = actR L n := by
  unfold Bnd.hasN dropOk Bnd.actN actR dropOk
  by_cases hn : n = []
  · simp [hn]
  · rw [if_neg hn, if_neg hn, decide_eq_false hn, rep_has h.rep n]
    refine ⟨by simp, ?_⟩
    cases hh : f.has (mkS n)
    · have : f.act (mkS n) = 0 := by
        unfold Bnd.has at hh
        unfold Bnd.act
        cases q : f (mkS n) with
        | none => rfl
        | some a => rw [q] at hh; cases hh
      simp [this]
    · have := rep_act h.rep n (by rw [rep_has h.rep n]; exact hh)
      simp [this]
theorem act_zero {f : Bnd} (h : Good f) (s : ByteArray) : f.act s = 0 ↔ f.has s = false := by
  unfold Bnd.act Bnd.has
  cases q : f s with
  | none => simp
  | some a =>
    have := h s a q
    simp; omega
theorem Alike.bindE {L : List Bd} {f : Bnd} (h : Alike L f) (n : List UInt8) (a : Int) : bindE f L.length n a = refE L n a := by
  unfold Ythkcfdnenbboaaa.bindE refE
  split
  · rfl
  · split
    · rfl
    · have e : (f.act (mkS n) = 0 ∧ 512 ≤ L.length) ↔ (isAt L (mkS n) = false ∧ 512 ≤ L.length) := by rw [act_zero h.good, rep_has h.rep]
      by_cases q : f.act (mkS n) = 0 ∧ 512 ≤ L.length
      · rw [if_pos q, if_pos (e.1 q)]
      · rw [if_neg q, if_neg (fun z => q (e.2 z))]
theorem Alike.bind {L : List Bd} {f : Bnd} (h : Alike L f) (n : List UInt8) (hn : (mkS n).size ≤ maxLen) (a : Int) : Alike (refL L n a) (bindF f L.length n a) := by
  unfold refL bindF
  rw [h.bindE]
  by_cases q : refE L n a = 0
  · rw [if_pos q, if_pos q]
    have ha : ¬ (a < 1 ∨ 19 < a) := fun z => by
      unfold refE at q
      split at q <;> omega
    refine ⟨rep_set h.rep n a, fun s b hs => ?_, sized_set h.sz hn⟩
    unfold Bnd.put at hs
    split at hs
    · cases hs; omega
    · exact h.good s b hs
  · rw [if_neg q, if_neg q]; exact h
theorem Alike.drop {L : List Bd} {f : Bnd} (h : Alike L f) (n : List UInt8) : Alike (dropL L n) (dropF f n) := by
  unfold dropL dropF
  rw [(h.at n).1]
  by_cases q : dropOk L n = true
  · rw [if_pos q, if_pos q]
    have hat : isAt L (mkS n) = true := by unfold dropOk at q; simp at q; exact q.2
    refine ⟨rep_drop h.rep n hat, fun s b hs => ?_, ?_⟩
    · unfold Bnd.del at hs
      split at hs
      · cases hs
      · exact h.good s b hs
    · have hz := sized_iff.1 h.sz
      rw [sized_iff]
      intro b hb
      rcases List.mem_append.1 hb with z | z
      · exact hz b (List.mem_of_mem_take z)
      · exact hz b (List.mem_of_mem_drop z)
  · rw [if_neg q, if_neg q]; exact h
theorem rep_len {L : List Bd} {f : Bnd} (h : Rep L f) {w : World} {mb m c : Nat} (hM : MapF w mb m c f) : L.length = c := by
  obtain ⟨ss, hs, rfl⟩ := h
  rw [← hM.count hs]; simp [entL]
/-- The row that told gives. -/
theorem rowB_told {w : World} {x : Option Addr} {n cap : Nat} {f : Bnd} {ss : List (List UInt8)} (h : SeesB w x n f ss) (hn : n ≤ ss.length) (hc : n ≤ cap) (hx : n = 0 → RowB w x 0 cap []) : RowB w x n cap ((entL f ss).take n) := by
  rcases Nat.eq_zero_or_pos n with hz | hp
  · subst hz; simpa using hx rfl
  · obtain ⟨g, rfl, hg, hcs⟩ := h hp
    refine ⟨by simp [entL]; omega, hc, .inr ⟨g, rfl, hg, fun i hi => ?_⟩⟩
    have hb : bn ((entL f ss).take n) i = (nmAt ss i, f.act (nmAt ss i)) := by
      rw [bn_take _ _ _ hi]
      simp [bn, entL, List.getD, nmAt, show i < ss.length by omega]
    rw [hb]
    exact hcs i hi
theorem keys_alike (f : Bnd) (a : Int) : ∀ ss : List (List UInt8), keysOn f ss a (List.range ss.length) = keysB (entL f ss) a := by
  intro ss
  have h : ∀ k, k ≤ ss.length → keysOn f ss a (List.range k) = keysB ((entL f ss).take k) a := by
    intro k
    induction k with
    | zero => intro _; rfl
    | succ k ih =>
      intro hk
      have hb : bn (entL f ss) k = (nmAt ss k, f.act (nmAt ss k)) := by simp [bn, entL, List.getD, nmAt, show k < ss.length by omega]
      rw [List.range_succ, keysOn_snoc, ih (by omega), keysB_snoc _ _ _ (by simp [entL]; omega), hb]
  have := h ss.length (Nat.le_refl _)
  rw [this]
  congr 1
  exact List.take_of_length_le (by simp [entL])
/-- The law's memory: the map, the reference's row in its box, the key. -/
structure Sx (w : World) (q b mb m c : Nat) (f : Bnd) (x : Option Addr) (n cap : Nat) (L : List Bd) (k : Ky) (wx : World) : Prop where
  map : MapI wx b mb m c f
  rb : Boxed wx q 44 (.slice x n cap)
  row : RowB wx x n cap L
  key : KyAt wx w.heap.size k
  bel : Below w.heap.size w wx
  qlt : w.heap.size < q
  low : w.heap.size < b ∧ w.heap.size < mb
theorem RowB.but {w w' : World} {x : Option Addr} {n cap : Nat} {L : List Bd} (h : RowB w x n cap L) {l : List Nat} (hB : But l w w') (hl : ∀ j, j ∈ l → ∀ cs t r, w.heap[j]? ≠ some (.cells cs t r)) : RowB w' x n cap L := by
  obtain ⟨h1, h2, h3⟩ := h
  refine ⟨h1, h2, h3.imp id ?_⟩
  rintro ⟨g, rfl, hg, hc⟩
  refine ⟨g, rfl, by have := hB.size; omega, fun i hi => ?_⟩
  have hgl : g ∉ l := fun hq => by
    have hci := (hc i hi).1
    cases hh : w.heap[g]? with
    | none => simp [World.cell?, hh] at hci
    | some o =>
      cases o with
      | cells cs t r => exact hl g hq cs t r hh
      | _ => simp [World.cell?, hh] at hci
  have e := hB.block g hg hgl
  exact ⟨(World.cell?_of_block e).trans (hc i hi).1, (World.cell?_of_block e).trans (hc i hi).2⟩
theorem map_no {w : World} {b mb m c : Nat} {f : Bnd} (h : MapI w b mb m c f) : ∀ j, j ∈ [mb] → ∀ cs t r, w.heap[j]? ≠ some (.cells cs t r) := fun j hj cs t r e => by
  simp at hj
  subst hj
  obtain ⟨es, clock, hm⟩ := h.map.kind
  rw [hm] at e
  cases e
theorem Sx.kept {w : World} {q b mb m c : Nat} {f : Bnd} {x : Option Addr} {n cap : Nat} {L : List Bd} {k : Ky} {w1 w2 : World} (h : Sx w q b mb m c f x n cap L k w1) (hb : Below w1.heap.size w1 w2) : Sx w q b mb m c f x n cap L k w2 :=
  ⟨h.map.below hb, (hb.block _ h.rb.lt).trans h.rb, h.row.below hb, h.key.kept h.key.get.2.2.2.2.2.2.2 hb, h.bel.trans (below_le hb h.bel.size), h.qlt, h.low⟩
/-- The map turned alone. -/
theorem Sx.turned {w : World} {q b mb m c : Nat} {f : Bnd} {x : Option Addr} {n cap : Nat} {L : List Bd} {k : Ky} {w1 w2 : World} {m' c' : Nat} {f' : Bnd} (h : Sx w q b mb m c f x n cap L k w1) (hM : MapI w2 b mb m' c' f') (hB : But [mb] w1 w2) : Sx w q b mb m' c' f' x n cap L k w2 := by
  have hno := map_no h.map mb (by simp)
  have hq : q ∉ [mb] := fun e => by simp at e; subst e; exact hno _ _ _ h.rb
  have hk : w.heap.size ∉ [mb] := by simp; have := h.low.2; omega
  exact ⟨hM, hB.heap h.rb hq, h.row.but hB (map_no h.map), hB.heap h.key hk, h.bel.trans (hB.toBelow h.bel.size (by simp; have := h.low.2; omega)), h.qlt, h.low⟩
/-- Another map takes its place, while the old one turns. -/
theorem Sx.forked {w : World} {q b mb m c : Nat} {f : Bnd} {x : Option Addr} {n cap : Nat} {L : List Bd} {k : Ky} {w1 w2 : World} {b' mb' m' c' m2 c2 : Nat} {f' f2 : Bnd} (h : Sx w q b mb m c f x n cap L k w1) (hM' : MapI w1 b' mb' m' c' f') (hM : MapI w2 b mb m2 c2 f2) (hB : But [mb] w1 w2) (hne : b' ≠ mb ∧ mb' ≠ mb) (hlow : w.heap.size < b' ∧ w.heap.size < mb') :
    Sx w q b' mb' m' c' f' x n cap L k w2 := by
  have h2 := h.turned hM hB
  exact ⟨hM'.keep hB (by simp; exact hne.1) (by simp; exact hne.2), h2.rb, h2.row, h2.key, h2.bel, h.qlt, hlow⟩
theorem RowB.setBox {w : World} {x : Option Addr} {n cap : Nat} {L : List Bd} (h : RowB w x n cap L) {q : Nat} {u : Value} (hq : Boxed w q 44 u) (hu : ∀ s, u ≠ .string s) (v : Value) : RowB (w.setCell ⟨q, 0, none⟩ v) x n cap L := by
  obtain ⟨h1, h2, h3⟩ := h
  refine ⟨h1, h2, h3.imp id ?_⟩
  rintro ⟨g, rfl, hg, hc⟩
  refine ⟨g, rfl, by simpa using hg, fun i hi => ?_⟩
  have hne : g ≠ q := fun e => by
    subst e
    have h0 := (hc 0 (by omega)).1
    rw [Nat.zero_mul, hq.cell] at h0
    exact hu _ (Option.some.inj h0)
  exact ⟨(World.cell?_of_block (set_other hne)).trans (hc i hi).1, (World.cell?_of_block (set_other hne)).trans (hc i hi).2⟩
/-- The reference's row takes a new one's place. -/
theorem Sx.setR {w : World} {q b mb m c : Nat} {f : Bnd} {x : Option Addr} {n cap : Nat} {L : List Bd} {k : Ky} {w1 : World} {x' : Option Addr} {n' cap' : Nat} {L' : List Bd} (h : Sx w q b mb m c f x n cap L k w1) (hr : RowB w1 x' n' cap' L') : Sx w q b mb m c f x' n' cap' L' k (w1.setCell ⟨q, 0, none⟩ (.slice x' n' cap')) := by
  have hbq : b ≠ q := fun e => by
    subst e
    have := h.map.cells
    rw [show w1.heap[b]? = _ from h.rb] at this
    cases this
  have hmq : mb ≠ q := fun e => by
    subst e
    exact map_no h.map mb (by simp) _ _ _ h.rb
  have hkq : w.heap.size ≠ q := by have := h.qlt; omega
  exact ⟨⟨(set_other hbq).trans h.map.cells, h.map.map.block (set_other hmq)⟩, h.rb.set _, hr.setBox h.rb (fun s e => by cases e) _, (set_other hkq).trans h.key, h.bel.setCell (p := ⟨q, 0, none⟩) (by simp; have := h.qlt; omega) _, h.qlt, h.low⟩
end Go.Proofs.Ythkcfdnenbboaaa
