/- The reference's row stands for the map's bindings: what Bind and Drop make of both; plain laws. -/
import Derived.Test.YthkcfdnenbboaaaK37
namespace Go.Proofs.Ythkcfdnenbboaaa
open Go.RowKit Go.Shelf Go.Maps Go.Sort Go.ChangeMaps
def entL (f : Bnd) (ss : List (List UInt8)) : List Bd := ss.map fun x => (mkS x, f.act (mkS x))
def Rep (L : List Bd) (f : Bnd) : Prop := ∃ ss, NamesOf f ss ∧ L = entL f ss
theorem ltS_mk (a b : List UInt8) : ltS (mkS a) (mkS b) = decide (a < b) := rfl
theorem plc_spec (f : Bnd) (t : List UInt8) : ∀ ss : List (List UInt8), ss.Pairwise (fun x y => x < y) → ∃ A B, ss = A ++ B ∧ plc (entL f ss) (mkS t) = A.length ∧ (∀ x ∈ A, x < t) ∧ (∀ x ∈ B, ¬ x < t)
  | [], _ => ⟨[], [], rfl, rfl, (fun x h => by cases h), (fun x h => by cases h)⟩
  | b :: ss, h => by
    obtain ⟨h1, h2⟩ := List.pairwise_cons.1 h
    by_cases q : b < t
    · obtain ⟨A, B, e1, e2, e3, e4⟩ := plc_spec f t ss h2
      refine ⟨b :: A, B, by rw [e1]; rfl, ?_, fun x hx => ?_, e4⟩
      · show (if ltS (mkS b) (mkS t) then plc (entL f ss) (mkS t) + 1 else 0) = _
        rw [ltS_mk, decide_eq_true q, if_pos rfl, e2]; rfl
      · rcases List.mem_cons.1 hx with rfl | hx
        · exact q
        · exact e3 x hx
    · refine ⟨[], b :: ss, rfl, ?_, (fun x h => by cases h), fun x hx => ?_⟩
      · show (if ltS (mkS b) (mkS t) then plc (entL f ss) (mkS t) + 1 else 0) = _
        rw [ltS_mk, decide_eq_false q]; rfl
      · rcases List.mem_cons.1 hx with rfl | hx
        · exact q
        · intro z; exact q (List.lt_trans (h1 x hx) z)
theorem entL_bn (f : Bnd) (A B : List (List UInt8)) (b : List UInt8) : bn (entL f (A ++ b :: B)) A.length = (mkS b, f.act (mkS b)) := by
  simp [bn, entL, List.getD]
theorem lt_of_not {x t : List UInt8} (h : ¬ x < t) (hne : x ≠ t) : t < x := by
  by_cases q : t < x
  · exact q
  · exact absurd (List.le_antisymm (List.not_lt.1 q) (List.not_lt.1 h)) hne
theorem rep_spec {f : Bnd} {ss : List (List UInt8)} (h : NamesOf f ss) (t : List UInt8) : ∃ A B, ss = A ++ B ∧ plc (entL f ss) (mkS t) = A.length ∧ (∀ x ∈ A, x < t) ∧
    ((isAt (entL f ss) (mkS t) = true ∧ ∃ B', B = t :: B' ∧ ∀ x ∈ B', t < x) ∨ (isAt (entL f ss) (mkS t) = false ∧ ∀ x ∈ B, t < x)) := by
  obtain ⟨A, B, e1, e2, e3, e4⟩ := plc_spec f t ss h.1
  refine ⟨A, B, e1, e2, e3, ?_⟩
  have hl : (entL f ss).length = A.length + B.length := by rw [e1]; simp [entL]
  cases B with
  | nil =>
    refine .inr ⟨?_, (fun x h => by cases h)⟩
    unfold isAt
    rw [e2, hl]; simp
  | cons b B =>
    have hp := h.1
    rw [e1] at hp
    obtain ⟨_, hp2, _⟩ := List.pairwise_append.1 hp
    obtain ⟨hp3, _⟩ := List.pairwise_cons.1 hp2
    have hbn : (bn (entL f ss) A.length).1 = mkS b := by rw [e1, entL_bn]
    have hat : isAt (entL f ss) (mkS t) = decide (b = t) := by
      unfold isAt
      rw [e2, hl, hbn, decide_eq_true (by simp), Bool.true_and, Bool.eq_iff_iff, decide_eq_true_eq, decide_eq_true_eq, mkS_inj]
    by_cases q : b = t
    · subst q
      exact .inl ⟨by rw [hat]; simp, B, rfl, hp3⟩
    · refine .inr ⟨by rw [hat]; exact decide_eq_false q, fun x hx => ?_⟩
      have hb : t < b := lt_of_not (e4 b (List.mem_cons_self ..)) q
      rcases List.mem_cons.1 hx with rfl | hx
      · exact hb
      · exact List.lt_trans hb (hp3 x hx)
theorem rep_has {L : List Bd} {f : Bnd} (h : Rep L f) (t : List UInt8) : isAt L (mkS t) = f.has (mkS t) := by
  obtain ⟨ss, hs, rfl⟩ := h
  obtain ⟨A, B, e1, e2, e3, ⟨q, B', e4, e5⟩ | ⟨q, e4⟩⟩ := rep_spec hs t
  · rw [q, eq_comm, ← hs.2, e1, e4]
    simp
  · rw [q, eq_comm, Bool.eq_false_iff]
    intro hh
    have := (hs.2 t).2 hh
    rw [e1, List.mem_append] at this
    rcases this with z | z
    · exact List.lt_irrefl _ (e3 t z)
    · exact List.lt_irrefl _ (e4 t z)
theorem entL_same {f g : Bnd} {ss : List (List UInt8)} (h : ∀ x ∈ ss, f.act (mkS x) = g.act (mkS x)) : entL f ss = entL g ss := by
  unfold entL
  exact List.map_congr_left fun x hx => by rw [h x hx]
theorem act_put_ne {f : Bnd} {s t : List UInt8} {a : Int} (h : t ≠ s) : (f.put (mkS s) a).act (mkS t) = f.act (mkS t) := by
  unfold Bnd.act Bnd.put
  rw [if_neg (fun q => h (mkS_inj.1 q))]
theorem act_del_ne {f : Bnd} {s t : List UInt8} (h : t ≠ s) : (f.del (mkS s)).act (mkS t) = f.act (mkS t) := by
  unfold Bnd.act Bnd.del
  rw [if_neg (fun q => h (mkS_inj.1 q))]
theorem has_put (f : Bnd) (s t : List UInt8) (a : Int) : (f.put (mkS s) a).has (mkS t) = true ↔ t = s ∨ f.has (mkS t) = true := by
  unfold Bnd.has Bnd.put
  by_cases h : t = s
  · subst h; simp
  · rw [if_neg (fun q => h (mkS_inj.1 q))]; simp [h]
theorem has_del (f : Bnd) (s t : List UInt8) : (f.del (mkS s)).has (mkS t) = true ↔ t ≠ s ∧ f.has (mkS t) = true := by
  unfold Bnd.has Bnd.del
  by_cases h : t = s
  · subst h; simp
  · rw [if_neg (fun q => h (mkS_inj.1 q))]; simp [h]
theorem entL_take (f : Bnd) (A B : List (List UInt8)) : (entL f (A ++ B)).take A.length = entL f A := by simp [entL]
theorem entL_drop (f : Bnd) (A B : List (List UInt8)) : (entL f (A ++ B)).drop A.length = entL f B := by simp [entL]
theorem entL_drop1 (f : Bnd) (A B : List (List UInt8)) (b : List UInt8) : (entL f (A ++ b :: B)).drop (A.length + 1) = entL f B := by
  rw [← List.drop_drop, entL_drop]; rfl
theorem rep_set {L : List Bd} {f : Bnd} (h : Rep L f) (t : List UInt8) (a : Int) : Rep (setL L (mkS t) a) (f.put (mkS t) a) := by
  obtain ⟨ss, hs, rfl⟩ := h
  have hact : (f.put (mkS t) a).act (mkS t) = a := by simp [Bnd.act, Bnd.put]
  obtain ⟨A, B, e1, e2, e3, ⟨q, B', e4, e5⟩ | ⟨q, e4⟩⟩ := rep_spec hs t
  · subst e4
    refine ⟨ss, ⟨hs.1, fun x => ?_⟩, ?_⟩
    · rw [has_put, ← hs.2]
      constructor
      · exact .inr
      · rintro (rfl | z)
        · rw [e1]; simp
        · exact z
    · unfold setL
      rw [q, if_pos rfl, e2]
      have hA : entL (f.put (mkS t) a) A = entL f A := entL_same fun x hx => act_put_ne (fun z => by subst z; exact List.lt_irrefl _ (e3 x hx))
      have hB : entL (f.put (mkS t) a) B' = entL f B' := entL_same fun x hx => act_put_ne (fun z => by subst z; exact List.lt_irrefl _ (e5 x hx))
      rw [e1, entL_take, entL_drop1, ← hA, ← hB]
      simp [entL, hact]
  · refine ⟨A ++ t :: B, ⟨?_, fun x => ?_⟩, ?_⟩
    · have hp := hs.1
      rw [e1] at hp
      obtain ⟨p1, p2, p3⟩ := List.pairwise_append.1 hp
      refine List.pairwise_append.2 ⟨p1, List.pairwise_cons.2 ⟨e4, p2⟩, fun x hx y hy => ?_⟩
      rcases List.mem_cons.1 hy with rfl | hy
      · exact e3 x hx
      · exact p3 x hx y hy
    · rw [has_put, ← hs.2, e1]
      simp only [List.mem_append, List.mem_cons]
      constructor
      · rintro (z | z | z)
        · exact .inr (.inl z)
        · exact .inl z
        · exact .inr (.inr z)
      · rintro (z | z | z)
        · exact .inr (.inl z)
        · exact .inl z
        · exact .inr (.inr z)
    · unfold setL
      rw [q, if_neg (by simp), e2]
      have hA : entL (f.put (mkS t) a) A = entL f A := entL_same fun x hx => act_put_ne (fun z => by subst z; exact List.lt_irrefl _ (e3 x hx))
      have hB : entL (f.put (mkS t) a) B = entL f B := entL_same fun x hx => act_put_ne (fun z => by subst z; exact List.lt_irrefl _ (e4 x hx))
      rw [e1, entL_take, entL_drop, ← hA, ← hB]
      simp [entL, hact]
theorem rep_drop {L : List Bd} {f : Bnd} (h : Rep L f) (t : List UInt8) (hat : isAt L (mkS t) = true) : Rep (L.take (plc L (mkS t)) ++ L.drop (plc L (mkS t) + 1)) (f.del (mkS t)) := by
  obtain ⟨ss, hs, rfl⟩ := h
  obtain ⟨A, B, e1, e2, e3, ⟨q, B', e4, e5⟩ | ⟨q, e4⟩⟩ := rep_spec hs t
  · subst e4
    have hp := hs.1
    rw [e1] at hp
    obtain ⟨p1, p2, p3⟩ := List.pairwise_append.1 hp
    obtain ⟨_, p5⟩ := List.pairwise_cons.1 p2
    refine ⟨A ++ B', ⟨List.pairwise_append.2 ⟨p1, p5, fun x hx y hy => p3 x hx y (List.mem_cons_of_mem _ hy)⟩, fun x => ?_⟩, ?_⟩
    · rw [has_del, ← hs.2, e1]
      simp only [List.mem_append, List.mem_cons]
      constructor
      · rintro (z | z)
        · exact ⟨fun e => by subst e; exact List.lt_irrefl _ (e3 x z), .inl z⟩
        · exact ⟨fun e => by subst e; exact List.lt_irrefl _ (e5 x z), .inr (.inr z)⟩
      · rintro ⟨z, y | y | y⟩
        · exact .inl y
        · exact absurd y z
        · exact .inr y
    · have hA : entL (f.del (mkS t)) A = entL f A := entL_same fun x hx => act_del_ne (fun z => by subst z; exact List.lt_irrefl _ (e3 x hx))
      have hB : entL (f.del (mkS t)) B' = entL f B' := entL_same fun x hx => act_del_ne (fun z => by subst z; exact List.lt_irrefl _ (e5 x hx))
      rw [e2, e1, entL_take, entL_drop1, ← hA, ← hB]
      simp [entL]
  · rw [q] at hat; cases hat
theorem rep_act {L : List Bd} {f : Bnd} (h : Rep L f) (t : List UInt8) (hat : isAt L (mkS t) = true) : (bn L (plc L (mkS t))).2 = f.act (mkS t) := by
  obtain ⟨ss, hs, rfl⟩ := h
  obtain ⟨A, B, e1, e2, e3, ⟨q, B', e4, e5⟩ | ⟨q, e4⟩⟩ := rep_spec hs t
  · subst e4
    rw [e2, e1, entL_bn]
  · rw [q] at hat; cases hat
end Go.Proofs.Ythkcfdnenbboaaa
