/- Walks: Equal, SameAll, beside of both sides. -/
import Derived.Test.YtdehjofmangmbaaF7
namespace Go.Proofs.Ytdehjofmangmbaa
open Go.RowKit Go.Shelf
theorem txmap_inj : ∀ {A B : List Bs}, A.map tx = B.map tx → A = B
  | [], [], _ => rfl
  | [], b :: B, h => by simp at h
  | a :: A, [], h => by simp at h
  | a :: A, b :: B, h => by
    simp only [List.map_cons, List.cons.injEq] at h
    have h1 : a = b := by have := congrArg (·.data.toList) h.1; simpa [tx] using this
    rw [h1, txmap_inj h.2]
theorem wequal (v1 v2 : Value) (A B : List Bs) (w : World) (h1 : TxV w v1 A) (h2 : TxV w v2 B) : Calls Try.prog 43 #[v1, v2] w fun e w' => e = .returned (.bool (decide (A = B))) ∧ Below w.heap.size w w' := by
  obtain ⟨x1, c1, rfl, _, k1, f1⟩ := h1.old
  obtain ⟨x2, c2, rfl, _, k2, f2⟩ := h2.old
  by_cases hl : A.length = B.length
  · rcases Nat.eq_zero_or_pos A.length with e | e
    · have hA : A = [] := List.length_eq_zero_iff.1 e
      have hB : B = [] := List.length_eq_zero_iff.1 (by omega)
      subst hA; subst hB
      refine (Try.slices_Equal_string_empty x1 x2 c1 0 c2 w (by omega)).mono ?_
      rintro e w' ⟨rfl, rfl⟩
      exact ⟨rfl, Below.refl _ _⟩
    · obtain ⟨g1, o1, rfl, _, q1⟩ := f1 (List.ne_nil_of_length_pos e)
      obtain ⟨g2, o2, rfl, _, q2⟩ := f2 (List.ne_nil_of_length_pos (by omega))
      have cell : ∀ (L : List Bs) (g o : Nat), (∀ i, i < L.length → w.cell? ⟨g, o + i, none⟩ = some (.string (tx (L.getD i [])))) → ∀ j, j < (L.map tx).length → w.cell? ⟨g, o + j, none⟩ = some (.string ((L.map tx).getD j ByteArray.empty)) := fun L g o h j hj => by
        rw [List.length_map] at hj
        rw [h j hj, List.getD_eq_getElem?_getD, List.getD_eq_getElem?_getD, List.getElem?_map, List.getElem?_eq_getElem hj]
        rfl
      refine (Try.slices_Equal_string g1 o1 A.length c1 g2 o2 B.length c2 (A.map tx) (B.map tx) w (by simp) (by simp) (by omega) (by omega) (cell A g1 o1 q1) (cell B g2 o2 q2)).mono ?_
      rintro e w' ⟨rfl, q, rfl⟩
      refine ⟨?_, below_drewN (Below.refl _ _) _⟩
      rw [List.take_of_length_le (by simp), List.take_of_length_le (by simp)]
      congr 2
      exact decide_eq_decide.2 ⟨txmap_inj, fun h => by rw [h]⟩
  · refine (Try.slices_Equal_string_lens x1 x2 A.length c1 B.length c2 w hl).mono ?_
    rintro e w' ⟨rfl, rfl⟩
    exact ⟨by rw [decide_eq_false (fun e => hl (by rw [e]))], Below.refl _ _⟩
end Go.Proofs.Ytdehjofmangmbaa
