/- Walks: the reference's Stand. -/
import Derived.Test.YtdehjofmangmbaaFD
namespace Go.Proofs.Ytdehjofmangmbaa
open Go.RowKit Go.Shelf
theorem besS_iff {o wd : List Bs} {x : Nat} : x ∈ besS o wd ↔ isAt o wd x = true := by
  refine ⟨fun h => (besS_mem h).2, fun h => ?_⟩
  have h2 : x + wd.length ≤ o.length := by unfold isAt at h; exact (of_decide_eq_true h).1
  unfold besS
  rw [List.mem_filter]
  exact ⟨by simp; omega, h⟩
theorem getD_mem {l : List Nat} {j : Nat} (h : j < l.length) : l.getD j 0 ∈ l := by
  rw [List.getD_eq_getElem?_getD, List.getElem?_eq_getElem h]; exact List.getElem_mem h
theorem st_ne {o wd : List Bs} (h : isAt o wd 0 = false) : wd ≠ [] := fun e => by
  subst e
  unfold isAt at h
  simp at h
theorem st_zero {o wd : List Bs} (h : isAt o wd 0 = true) : fndS o wd = some ⟨if wd.length = o.length then 0 else 1, 0, runN 0 wd.length⟩ := by
  have hm := besS_iff.2 h
  have hp := List.length_pos_of_mem hm
  refine fnd_zero hp ?_
  obtain ⟨j, hj, e⟩ := List.getElem_of_mem hm
  have := inc_span (besS_inc o wd) j hj
  have ej : (besS o wd).getD j 0 = 0 := by rw [List.getD_eq_getElem?_getD, List.getElem?_eq_getElem hj]; exact e
  omega
theorem st_same {wd : List Bs} : isAt wd wd 0 = true := by unfold isAt; simp
theorem st_len {o wd : List Bs} (h : isAt o wd 0 = true) (hne : ¬ o = wd) : ¬ wd.length = o.length := fun e => by
  unfold isAt at h
  have := (of_decide_eq_true h).2
  rw [e, List.drop_zero, List.take_length] at this
  exact hne this
theorem st_head {o wd : List Bs} (h : isAt o wd 0 = false) (hp : 0 < (besS o wd).length) : (besS o wd).getD 0 0 ≠ 0 := fun e => by
  have := besS_iff.1 (getD_mem hp)
  rw [e, h] at this
  cases this
theorem st_two {o wd : List Bs} {i : Nat} (h0 : isAt o wd 0 = false) (hi : isAt o wd i = true) (hl : ltr (o.getD (i - 1) []) = false) (hq : ∀ q, q < i → isAt o wd q = true → ltr (o.getD (q - 1) []) = true) : fndS o wd = some ⟨2, 0, runN i wd.length⟩ := by
  have hm := besS_iff.2 hi
  obtain ⟨j, hj, e⟩ := List.getElem_of_mem hm
  have ej : (besS o wd).getD j 0 = i := by rw [List.getD_eq_getElem?_getD, List.getElem?_eq_getElem hj]; exact e
  have h := fnd_hit hj (st_head h0 (by omega)) (by rw [ej]; exact hl) (fun q hqj => by
    have h1 := List.pairwise_iff_getElem.1 (besS_inc o wd) q j (by omega) hj hqj
    have eq : (besS o wd).getD q 0 = (besS o wd)[q] := by rw [List.getD_eq_getElem?_getD, List.getElem?_eq_getElem (by omega)]; rfl
    exact hq _ (by rw [eq]; omega) (besS_iff.1 (getD_mem (by omega))))
  rw [h, ej]
theorem st_three {o wd : List Bs} {i : Nat} (h0 : isAt o wd 0 = false) (hi : isAt o wd i = true) (hl : ∀ q, isAt o wd q = true → ltr (o.getD (q - 1) []) = true) (hq : ∀ q, q < i → isAt o wd q = false) : fndS o wd = some ⟨3, 0, runN i wd.length⟩ := by
  have hm := besS_iff.2 hi
  have hp := List.length_pos_of_mem hm
  have h := fnd_last hp (st_head h0 hp) (fun q hqj => hl _ (besS_iff.1 (getD_mem hqj)))
  obtain ⟨j, hj, e⟩ := List.getElem_of_mem hm
  have h1 := inc_span (besS_inc o wd) j hj
  have ej : (besS o wd).getD j 0 = i := by rw [List.getD_eq_getElem?_getD, List.getElem?_eq_getElem hj]; exact e
  have e0 : (besS o wd).getD 0 0 = i := by
    rcases Nat.lt_or_ge ((besS o wd).getD 0 0) i with q | q
    · have := besS_iff.1 (getD_mem hp)
      rw [hq _ q] at this
      cases this
    · omega
  rw [h, e0]
theorem st_four {o wd : List Bs} (h : ∀ q, q < o.length → isAt o wd q = false) (h0 : isAt o wd 0 = false) : fndS o wd = sprS o wd := by
  refine fnd_nil ?_
  cases hb : besS o wd with
  | nil => rfl
  | cons p r =>
    exfalso
    have hp : p ∈ besS o wd := by rw [hb]; simp
    obtain ⟨h1, h2⟩ := besS_mem hp
    have := List.length_pos_iff.2 (st_ne h0)
    rw [h p (by omega)] at h2
    cases h2
theorem rfd_put {T : TypeId} {w W : World} {z0 z1 z2 : Value} {x : Option Addr} {c r : Nat} {l : List Nat} (hz : C3 T W w.heap.size z0 z1 z2) (hT : T ≠ 3) (hI : IntO w.heap.size W (.slice x l.length c) l) (hB : Below w.heap.size w W) (g : Nat) :
    C3 T (put3 W w.heap.size (.bool true) (.int .i64 r) (.slice x l.length c)) w.heap.size (.bool true) (.int .i64 r) (.slice x l.length c) ∧ RfO w.heap.size (put3 W w.heap.size (.bool true) (.int .i64 r) (.slice x l.length c)) (.agg #[.bool true, .int .i64 r, .slice x l.length c]) (some ⟨r, g, l⟩) ∧ Below w.heap.size w (put3 W w.heap.size (.bool true) (.int .i64 r) (.slice x l.length c)) :=
  ⟨hz.put, ⟨x, c, rfl, hI.put3 hz hT⟩, below_put3 hB (Nat.le_refl _)⟩
end Go.Proofs.Ytdehjofmangmbaa
