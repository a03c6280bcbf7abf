/- Rows of rows of texts; walks: words, Words. -/
import Derived.Test.YtdehjofmangmbaaF4
import Derived.OneCell
import Derived.RangeFuncBox
namespace Go.Proofs.Ytdehjofmangmbaa
open Go.RowKit Go.Shelf
theorem wdF_snoc (cs : List Bs) (c : Bs) : wdF (cs ++ [c]) = wdR (wdF cs) c := by simp [wdF]
theorem wdF_len (cs : List Bs) : (wdF cs).1.length ≤ cs.length ∧ ((wdF cs).2 = true → (wdF cs).1 ≠ []) := by
  have : ∀ (cs : List Bs) (s : List (List Bs) × Bool), (s.2 = true → s.1 ≠ []) → (cs.foldl wdR s).1.length ≤ s.1.length + cs.length ∧ ((cs.foldl wdR s).2 = true → (cs.foldl wdR s).1 ≠ []) := by
    intro cs
    induction cs with
    | nil => intro s h; exact ⟨by simp, h⟩
    | cons c r ih =>
      intro s h
      have h1 : (wdR s c).1.length ≤ s.1.length + 1 ∧ ((wdR s c).2 = true → (wdR s c).1 ≠ []) := by
        unfold wdR
        split
        · exact ⟨by simp, fun q => by cases q⟩
        · split
          · rename_i h2
            refine ⟨by simp, fun _ e => ?_⟩
            have := congrArg List.length e
            simp at this
            exact h h2 this
          · exact ⟨by simp, fun _ => by simp⟩
      obtain ⟨h3, h4⟩ := ih _ h1.2
      simp only [List.foldl_cons, List.length_cons]
      exact ⟨by omega, h4⟩
  have h := this cs ([], false) (fun h => by cases h)
  simpa [wdF] using h
/-- All words together are no longer than the clusters. -/
theorem wdF_flat (cs : List Bs) : ((wdF cs).1.map List.length).sum ≤ cs.length := by
  have : ∀ (cs : List Bs) (s : List (List Bs) × Bool), (s.2 = true → s.1 ≠ []) → ((cs.foldl wdR s).1.map List.length).sum ≤ (s.1.map List.length).sum + cs.length := by
    intro cs
    induction cs with
    | nil => intro s _; simp
    | cons c r ih =>
      intro s h
      have h1 : ((wdR s c).1.map List.length).sum ≤ (s.1.map List.length).sum + 1 ∧ ((wdR s c).2 = true → (wdR s c).1 ≠ []) := by
        unfold wdR
        split
        · exact ⟨by simp, fun q => by cases q⟩
        · split
          · rename_i h2
            obtain ⟨A, x, hA⟩ : ∃ A x, s.1 = A ++ [x] := ⟨s.1.dropLast, s.1.getLast (h h2), (List.dropLast_concat_getLast (h h2)).symm⟩
            rw [hA]
            refine ⟨?_, fun _ e => ?_⟩
            · simp [List.getD_eq_getElem?_getD]; omega
            · have := congrArg List.length e
              simp at this
          · exact ⟨by simp, fun _ => by simp⟩
      have := ih _ h1.2
      simp only [List.foldl_cons, List.length_cons]
      omega
  have h := this cs ([], false) (fun h => by cases h)
  simpa [wdF] using h
theorem cutF_ne (rs : List Int) : (∀ c ∈ (cutF rs).1, c ≠ []) ∧ ((cutF rs).2.2 = true → (cutF rs).2.1 ≠ []) := by
  have : ∀ (rs : List Int) (s : List Bs × Bs × Bool), ((∀ c ∈ s.1, c ≠ []) ∧ (s.2.2 = true → s.2.1 ≠ [])) → (∀ c ∈ (rs.foldl cutR s).1, c ≠ []) ∧ ((rs.foldl cutR s).2.2 = true → (rs.foldl cutR s).2.1 ≠ []) := by
    intro rs
    induction rs with
    | nil => intro s h; exact h
    | cons r rs ih =>
      intro s h
      refine ih _ ?_
      unfold cutR addS
      split
      · exact h
      · split
        · refine ⟨?_, fun _ => rb_ne r⟩
          simp only
          split
          · rename_i h2
            intro c hc
            rcases List.mem_append.1 hc with q | q
            · exact h.1 c q
            · simp at q; rw [q]; exact h.2 h2
          · exact h.1
        · split
          · exact ⟨h.1, fun _ => by simp [rb_ne r]⟩
          · exact h
  exact this rs _ ⟨by simp, fun h => by cases h⟩
theorem cutS_ne (l : Bs) : ∀ c ∈ cutS l, c ≠ [] := by
  obtain ⟨h1, h2⟩ := cutF_ne ((itm l).map (·.2))
  unfold cutS endS
  intro c hc
  split at hc
  · rename_i h3
    rcases List.mem_append.1 hc with q | q
    · exact h1 c q
    · simp at q; rw [q]; exact h2 h3
  · exact h1 c hc
theorem clS_ne (l : Bs) : ∀ c ∈ clS l, c ≠ [] := cutS_ne _
theorem clS_len (l : Bs) : (clS l).length ≤ 64 * (l.length + 1) + 1 := by
  have h1 := cutS_len (foldS l)
  have h2 := foldS_len l
  unfold clS
  omega
theorem clS_short (l : Bs) : ∀ c ∈ clS l, c.length ≤ 64 := cutS_short _
theorem types_ne {W : World} {B B' : Nat} {e e' : TypeId} {z z' n n' : Nat} {u v : Value} {xs ys : List Value} (h : W.ownsRow B e z u n xs) (h' : W.ownsRow B' e' z' v n' ys) (hne : e ≠ e') : u.ownBlock = none ∨ u.ownBlock ≠ v.ownBlock := by
  rcases h.2 with ⟨rfl, _⟩ | ⟨g, cap, cur, rfl, _, hg, _⟩
  · exact .inl rfl
  · refine .inr (fun e1 => ?_)
    rcases h'.2 with ⟨rfl, _⟩ | ⟨g', cap', cur', rfl, _, hg', _⟩
    · cases e1
    · obtain rfl : g = g' := by simpa [Value.ownBlock] using e1
      rw [hg] at hg'
      simp at hg'
      exact hne hg'.2
/-- Rows of rows of texts, all of one's own. -/
structure Rows2 (B : Nat) (W : World) (v : Value) (LL : List (List Bs)) (vs : List Value) : Prop where
  out : W.ownsRow B 22 1 v LL.length vs
  el : ∀ (i : Nat) (L : List Bs), LL[i]? = some L → ∃ u, vs[i]? = some u ∧ W.ownsRow B 9 1 u L.length (strs L)
  ap : ∀ (i j : Nat) (u u' : Value), i ≠ j → vs[i]? = some u → vs[j]? = some u' → u.ownBlock = none ∨ u.ownBlock ≠ u'.ownBlock
theorem Rows2.len {B : Nat} {W : World} {v : Value} {LL : List (List Bs)} {vs : List Value} (h : Rows2 B W v LL vs) : vs.length = LL.length := by have := h.out.1; omega
theorem Rows2.nil (B : Nat) (W : World) : Rows2 B W (.slice none 0 0) [] [] := ⟨World.ownsRow_nil _ _ _ _, (fun i L h => by cases h), (fun i j u u' _ h => by cases h)⟩
theorem Rows2.push {B : Nat} {W w3 : World} {v v' : Value} {LL : List (List Bs)} {vs : List Value} {o : Obj} (h : Rows2 B W v LL vs) (ho : w3.ownsRow B 22 1 v' (LL.length + 1) (vs ++ [.slice none 0 0])) (hg : (W.alloc o).grownBy w3 v.ownBlock) : Rows2 B w3 v' (LL ++ [[]]) (vs ++ [.slice none 0 0]) := by
  have hl := h.len
  refine ⟨by rw [List.length_append]; exact ho, fun i L hi => ?_, fun i j u u' hij hu hu' => ?_⟩
  · rcases Nat.lt_or_ge i LL.length with q | q
    · rw [List.getElem?_append_left q] at hi
      obtain ⟨u, h1, h2⟩ := h.el i L hi
      exact ⟨u, by rw [List.getElem?_append_left (by omega)]; exact h1, (h2.alloc o).kept hg (types_ne h2 h.out (by decide))⟩
    · rw [List.getElem?_append_right q] at hi
      have e : i - LL.length = 0 := by
        rcases Nat.eq_zero_or_pos (i - LL.length) with e | e
        · exact e
        · rw [List.getElem?_eq_none (by simp; omega)] at hi; cases hi
      rw [e] at hi
      cases hi
      exact ⟨.slice none 0 0, by rw [List.getElem?_append_right (by omega), hl, e]; rfl, World.ownsRow_nil _ _ _ _⟩
  · rcases Nat.lt_or_ge i vs.length with q | q
    · rw [List.getElem?_append_left q] at hu
      rcases Nat.lt_or_ge j vs.length with q' | q'
      · rw [List.getElem?_append_left q'] at hu'
        exact h.ap i j u u' hij hu hu'
      · rw [List.getElem?_append_right q'] at hu'
        have : u' = .slice none 0 0 := by
          rcases Nat.eq_zero_or_pos (j - vs.length) with e | e
          · rw [e] at hu'; cases hu'; rfl
          · rw [List.getElem?_eq_none (by simp; omega)] at hu'; cases hu'
        subst this
        cases hb : u.ownBlock
        · exact .inl rfl
        · exact .inr (fun e => by cases e)
    · rw [List.getElem?_append_right q] at hu
      have : u = .slice none 0 0 := by
        rcases Nat.eq_zero_or_pos (i - vs.length) with e | e
        · rw [e] at hu; cases hu; rfl
        · rw [List.getElem?_eq_none (by simp; omega)] at hu; cases hu
      subst this
      exact .inl rfl
/-- A text put behind the row at a place. -/
theorem Rows2.app {B : Nat} {W w3 : World} {g cap : Nat} {LL : List (List Bs)} {vs : List Value} {k : Nat} {u v' : Value} {L : List Bs} {c : Bs} {o : Obj} (h : Rows2 B W (.slice (some ⟨g, 0, none⟩) LL.length cap) LL vs) (hk : LL[k]? = some L) (hu : vs[k]? = some u)
    (ho : w3.ownsRow B 9 1 v' (L.length + 1) (strs L ++ [.string (tx c)])) (hg : (W.alloc o).grownBy w3 u.ownBlock) (ha : v'.ownBlock = u.ownBlock ∨ v'.ownBlock = some (W.heap.size + 1)) :
    Rows2 B (w3.setCell ⟨g, k, none⟩ v') (.slice (some ⟨g, 0, none⟩) LL.length cap) (LL.set k (L ++ [c])) (vs.set k v') := by
  have hl := h.len
  have hkl : k < LL.length := (List.getElem?_eq_some_iff.1 hk).1
  obtain ⟨u1, h1, h2⟩ := h.el k L hk
  obtain rfl : u = u1 := by rw [hu] at h1; exact Option.some.inj h1
  have hout : w3.ownsRow B 22 1 (.slice (some ⟨g, 0, none⟩) LL.length cap) LL.length vs := (h.out.alloc o).kept hg (types_ne h.out h2 (by decide))
  have hst := hout.stored k v'
  have hbn : ∀ (x : Value) (n : Nat) (xs : List Value), w3.ownsRow B 9 1 x n xs → x.ownBlock ≠ some g := fun x n xs hx => by
    rcases types_ne hx hout (by decide) with e | e
    · rw [e]; simp
    · exact e
  refine ⟨by rw [List.length_set]; exact hst.1, fun i Li hi => ?_, fun i j x x' hij hx hx' => ?_⟩
  · by_cases e : i = k
    · subst e
      rw [List.getElem?_set_self hkl] at hi
      cases hi
      exact ⟨v', List.getElem?_set_self (by omega), by rw [List.length_append, strs_app]; exact ownsRow_setCell_other ho (hbn v' _ _ ho) _⟩
    · rw [List.getElem?_set_ne (Ne.symm e)] at hi
      obtain ⟨x, h3, h4⟩ := h.el i Li hi
      have h5 : w3.ownsRow B 9 1 x Li.length (strs Li) := (h4.alloc o).kept hg (h.ap i k x u e h3 hu)
      exact ⟨x, by rw [List.getElem?_set_ne (Ne.symm e)]; exact h3, ownsRow_setCell_other h5 (hbn x _ _ h5) _⟩
  · have old : ∀ (i : Nat) (x : Value), i ≠ k → vs[i]? = some x → x.ownBlock = none ∨ x.ownBlock ≠ v'.ownBlock := fun i x hik hx => by
      rcases ha with e | e
      · rw [e]; exact h.ap i k x u hik hx hu
      · rw [e]
        cases hb : x.ownBlock with
        | none => exact .inl rfl
        | some b =>
          refine .inr (fun e2 => ?_)
          have hil : i < LL.length := by have := (List.getElem?_eq_some_iff.1 hx).1; omega
          obtain ⟨y, h6, h7⟩ := h.el i LL[i] (List.getElem?_eq_getElem hil)
          obtain rfl : x = y := by rw [hx] at h6; exact Option.some.inj h6
          have := (h7.lt b hb).2
          simp at e2
          omega
    have sym : ∀ (a b : Value), (a.ownBlock = none ∨ a.ownBlock ≠ b.ownBlock) → (b.ownBlock = none ∨ b.ownBlock ≠ a.ownBlock) := fun a b hab => by
      rcases hab with e | e
      · cases hb : b.ownBlock
        · exact .inl rfl
        · exact .inr (by rw [e]; simp)
      · exact .inr (fun q => e q.symm)
    by_cases e : i = k
    · subst e
      rw [List.getElem?_set_self (by omega)] at hx
      cases hx
      rw [List.getElem?_set_ne hij] at hx'
      exact sym _ _ (old j x' (Ne.symm hij) hx')
    · rw [List.getElem?_set_ne (Ne.symm e)] at hx
      by_cases e2 : j = k
      · subst e2
        rw [List.getElem?_set_self (by omega)] at hx'
        cases hx'
        exact old i x e hx
      · rw [List.getElem?_set_ne (Ne.symm e2)] at hx'
        exact h.ap i j x x' hij hx hx'
/-- Rows of rows of texts that may be read. -/
def RowsV (W : World) (v : Value) (LL : List (List Bs)) : Prop := ∃ x c, v = .slice x LL.length c ∧ LL.length ≤ c ∧ LL.length ≤ 1000000 ∧ (LL ≠ [] → ∃ g, x = some ⟨g, 0, none⟩ ∧ g < W.heap.size ∧ ∀ (i : Nat) (L : List Bs), LL[i]? = some L → ∃ u, W.cell? ⟨g, i, none⟩ = some u ∧ TxV W u L)
theorem RowsV.below {W W' : World} {v : Value} {LL : List (List Bs)} (h : RowsV W v LL) (hB : Below W.heap.size W W') : RowsV W' v LL := by
  obtain ⟨x, c, h1, h2, h3, h4⟩ := h
  refine ⟨x, c, h1, h2, h3, fun hn => ?_⟩
  obtain ⟨g, k1, k2, k3⟩ := h4 hn
  refine ⟨g, k1, Nat.lt_of_lt_of_le k2 hB.size, fun i L hi => ?_⟩
  obtain ⟨u, e1, e2⟩ := k3 i L hi
  exact ⟨u, (hB.cell (p := ⟨g, i, none⟩) k2).trans e1, e2.below hB⟩
theorem Rows2.view {B : Nat} {W : World} {v : Value} {LL : List (List Bs)} {vs : List Value} (h : Rows2 B W v LL vs) (hL : LL.length ≤ 1000000) (hE : ∀ L ∈ LL, L.length ≤ 1000000) : RowsV W v LL := by
  have hl := h.len
  obtain ⟨x, c, rfl⟩ := ownsRow_is h.out
  rcases Nat.eq_zero_or_pos LL.length with e | e
  · have hn : LL = [] := List.length_eq_zero_iff.1 e
    subst hn
    exact ⟨x, c, rfl, Nat.zero_le _, by simp, fun h => absurd rfl h⟩
  · rcases h.out.2 with ⟨hv, h0⟩ | ⟨g, cap, cur, hv, hb, hg, hnc, _⟩
    · omega
    · obtain ⟨rfl, rfl⟩ : x = some ⟨g, 0, none⟩ ∧ c = cap := by simpa using hv
      refine ⟨_, c, rfl, hnc, hL, fun _ => ⟨g, rfl, (Array.getElem?_eq_some_iff.1 hg).1, fun i L hi => ?_⟩⟩
      obtain ⟨u, h1, h2⟩ := h.el i L hi
      have hil := (List.getElem?_eq_some_iff.1 hi).1
      exact ⟨u, (h.out.cellAt i (by omega)).trans h1, TxV.of_row h2 (hE L (List.mem_of_getElem? hi))⟩
end Go.Proofs.Ytdehjofmangmbaa
