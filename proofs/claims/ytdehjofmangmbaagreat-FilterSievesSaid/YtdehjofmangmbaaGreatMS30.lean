/- Own texts, merged: F5, F6, F7, F8, F9. -/
import Derived.OneCell
import Derived.RangeFuncBox
import Derived.Test.YtdehjofmangmbaaGreatF4
/- Rows of rows of texts; walks: words, Words. -/
namespace Go.Proofs.YtdehjofmangmbaaGreat
open Go.RowKit Go.Shelf
theorem wdF_snoc (cs : List Bs) (c : Bs) : wdF (cs ++ [c]) = wdR (wdF cs) c := by simp [wdF]
theorem wdF_len (cs : List Bs) : (wdF cs).1.length ≤ cs.length ∧ ((wdF cs).2 = true → (wdF cs).1 ≠ []) := by
  have : ∀ (cs : List Bs) (s : List (List Bs) × Bool), (s.2 = true → s.1 ≠ []) → (cs.foldl wdR s).1.length ≤ s.1.length + cs.length ∧ ((cs.foldl wdR s).2 = true → (cs.foldl wdR s).1 ≠ []) := by
    intro cs
    induction cs with
    | nil => intro s h; exact ⟨by simp, h⟩
    | cons c r ih =>
      intro s h
      have h1 : (wdR s c).1.length ≤ s.1.length + 1 ∧ ((wdR s c).2 = true → (wdR s c).1 ≠ []) := by
        unfold wdR
        split
        · exact ⟨by simp, fun q => by cases q⟩
        · split
          · rename_i h2
            refine ⟨by simp, fun _ e => ?_⟩
            have := congrArg List.length e
            simp at this
            exact h h2 this
          · exact ⟨by simp, fun _ => by simp⟩
      obtain ⟨h3, h4⟩ := ih _ h1.2
      simp only [List.foldl_cons, List.length_cons]
      exact ⟨by omega, h4⟩
  have h := this cs ([], false) (fun h => by cases h)
  simpa [wdF] using h
/-- All words together are no longer than the clusters. -/
theorem wdF_flat (cs : List Bs) : ((wdF cs).1.map List.length).sum ≤ cs.length := by
  have : ∀ (cs : List Bs) (s : List (List Bs) × Bool), (s.2 = true → s.1 ≠ []) → ((cs.foldl wdR s).1.map List.length).sum ≤ (s.1.map List.length).sum + cs.length := by
    intro cs
    induction cs with
    | nil => intro s _; simp
    | cons c r ih =>
      intro s h
      have h1 : ((wdR s c).1.map List.length).sum ≤ (s.1.map List.length).sum + 1 ∧ ((wdR s c).2 = true → (wdR s c).1 ≠ []) := by
        unfold wdR
        split
        · exact ⟨by simp, fun q => by cases q⟩
        · split
          · rename_i h2
            obtain ⟨A, x, hA⟩ : ∃ A x, s.1 = A ++ [x] := ⟨s.1.dropLast, s.1.getLast (h h2), (List.dropLast_concat_getLast (h h2)).symm⟩
            rw [hA]
            refine ⟨?_, fun _ e => ?_⟩
            · simp [List.getD_eq_getElem?_getD]; omega
            · have := congrArg List.length e
              simp at this
          · exact ⟨by simp, fun _ => by simp⟩
      have := ih _ h1.2
      simp only [List.foldl_cons, List.length_cons]
      omega
  have h := this cs ([], false) (fun h => by cases h)
  simpa [wdF] using h
theorem cutF_ne (rs : List Int) : (∀ c ∈ (cutF rs).1, c ≠ []) ∧ ((cutF rs).2.2 = true → (cutF rs).2.1 ≠ []) := by
  have : ∀ (rs : List Int) (s : List Bs × Bs × Bool), ((∀ c ∈ s.1, c ≠ []) ∧ (s.2.2 = true → s.2.1 ≠ [])) → (∀ c ∈ (rs.foldl cutR s).1, c ≠ []) ∧ ((rs.foldl cutR s).2.2 = true → (rs.foldl cutR s).2.1 ≠ []) := by
    intro rs
    induction rs with
    | nil => intro s h; exact h
    | cons r rs ih =>
      intro s h
      refine ih _ ?_
      unfold cutR addS
      split
      · exact h
      · split
        · refine ⟨?_, fun _ => rb_ne r⟩
          simp only
          split
          · rename_i h2
            intro c hc
            rcases List.mem_append.1 hc with q | q
            · exact h.1 c q
            · simp at q; rw [q]; exact h.2 h2
          · exact h.1
        · split
          · exact ⟨h.1, fun _ => by simp [rb_ne r]⟩
          · exact h
  exact this rs _ ⟨by simp, fun h => by cases h⟩
theorem cutS_ne (l : Bs) : ∀ c ∈ cutS l, c ≠ [] := by
  obtain ⟨h1, h2⟩ := cutF_ne ((itm l).map (·.2))
  unfold cutS endS
  intro c hc
  split at hc
  · rename_i h3
    rcases List.mem_append.1 hc with q | q
    · exact h1 c q
    · simp at q; rw [q]; exact h2 h3
  · exact h1 c hc
theorem clS_ne (l : Bs) : ∀ c ∈ clS l, c ≠ [] := cutS_ne _
theorem clS_len (l : Bs) : (clS l).length ≤ 64 * (l.length + 1) + 1 := by
  have h1 := cutS_len (foldS l)
  have h2 := foldS_len l
  unfold clS
  omega
theorem clS_short (l : Bs) : ∀ c ∈ clS l, c.length ≤ 64 := cutS_short _
theorem types_ne {W : World} {B B' : Nat} {e e' : TypeId} {z z' n n' : Nat} {u v : Value} {xs ys : List Value} (h : W.ownsRow B e z u n xs) (h' : W.ownsRow B' e' z' v n' ys) (hne : e ≠ e') : u.ownBlock = none ∨ u.ownBlock ≠ v.ownBlock := by
  rcases h.2 with ⟨rfl, _⟩ | ⟨g, cap, cur, rfl, _, hg, _⟩
  · exact .inl rfl
  · refine .inr (fun e1 => ?_)
    rcases h'.2 with ⟨rfl, _⟩ | ⟨g', cap', cur', rfl, _, hg', _⟩
    · cases e1
    · obtain rfl : g = g' := by simpa [Value.ownBlock] using e1
      rw [hg] at hg'
      simp at hg'
      exact hne hg'.2
/-- Rows of rows of texts, all of one's own. -/
structure Rows2 (B : Nat) (W : World) (v : Value) (LL : List (List Bs)) (vs : List Value) : Prop where
  out : W.ownsRow B 26 1 v LL.length vs
  el : ∀ (i : Nat) (L : List Bs), LL[i]? = some L → ∃ u, vs[i]? = some u ∧ W.ownsRow B 9 1 u L.length (strs L)
  ap : ∀ (i j : Nat) (u u' : Value), i ≠ j → vs[i]? = some u → vs[j]? = some u' → u.ownBlock = none ∨ u.ownBlock ≠ u'.ownBlock
theorem Rows2.len {B : Nat} {W : World} {v : Value} {LL : List (List Bs)} {vs : List Value} (h : Rows2 B W v LL vs) : vs.length = LL.length := by have := h.out.1; omega
theorem Rows2.nil (B : Nat) (W : World) : Rows2 B W (.slice none 0 0) [] [] := ⟨World.ownsRow_nil _ _ _ _, (fun i L h => by cases h), (fun i j u u' _ h => by cases h)⟩
theorem Rows2.push {B : Nat} {W w3 : World} {v v' : Value} {LL : List (List Bs)} {vs : List Value} {o : Obj} (h : Rows2 B W v LL vs) (ho : w3.ownsRow B 26 1 v' (LL.length + 1) (vs ++ [.slice none 0 0])) (hg : (W.alloc o).grownBy w3 v.ownBlock) : Rows2 B w3 v' (LL ++ [[]]) (vs ++ [.slice none 0 0]) := by
  have hl := h.len
  refine ⟨by rw [List.length_append]; exact ho, fun i L hi => ?_, fun i j u u' hij hu hu' => ?_⟩
  · rcases Nat.lt_or_ge i LL.length with q | q
    · rw [List.getElem?_append_left q] at hi
      obtain ⟨u, h1, h2⟩ := h.el i L hi
      exact ⟨u, by rw [List.getElem?_append_left (by omega)]; exact h1, (h2.alloc o).kept hg (types_ne h2 h.out (by decide))⟩
    · rw [List.getElem?_append_right q] at hi
      have e : i - LL.length = 0 := by
        rcases Nat.eq_zero_or_pos (i - LL.length) with e | e
        · exact e
        · rw [List.getElem?_eq_none (by simp; omega)] at hi; cases hi
      rw [e] at hi
      cases hi
      exact ⟨.slice none 0 0, by rw [List.getElem?_append_right (by omega), hl, e]; rfl, World.ownsRow_nil _ _ _ _⟩
  · rcases Nat.lt_or_ge i vs.length with q | q
    · rw [List.getElem?_append_left q] at hu
      rcases Nat.lt_or_ge j vs.length with q' | q'
      · rw [List.getElem?_append_left q'] at hu'
        exact h.ap i j u u' hij hu hu'
      · rw [List.getElem?_append_right q'] at hu'
        have : u' = .slice none 0 0 := by
          rcases Nat.eq_zero_or_pos (j - vs.length) with e | e
          · rw [e] at hu'; cases hu'; rfl
          · rw [List.getElem?_eq_none (by simp; omega)] at hu'; cases hu'
        subst this
        cases hb : u.ownBlock
        · exact .inl rfl
        · exact .inr (fun e => by cases e)
    · rw [List.getElem?_append_right q] at hu
      have : u = .slice none 0 0 := by
        rcases Nat.eq_zero_or_pos (i - vs.length) with e | e
        · rw [e] at hu; cases hu; rfl
        · rw [List.getElem?_eq_none (by simp; omega)] at hu; cases hu
      subst this
      exact .inl rfl
/-- A text put behind the row at a place. -/
theorem Rows2.app {B : Nat} {W w3 : World} {g cap : Nat} {LL : List (List Bs)} {vs : List Value} {k : Nat} {u v' : Value} {L : List Bs} {c : Bs} {o : Obj} (h : Rows2 B W (.slice (some ⟨g, 0, none⟩) LL.length cap) LL vs) (hk : LL[k]? = some L) (hu : vs[k]? = some u)
    (ho : w3.ownsRow B 9 1 v' (L.length + 1) (strs L ++ [.string (tx c)])) (hg : (W.alloc o).grownBy w3 u.ownBlock) (ha : v'.ownBlock = u.ownBlock ∨ v'.ownBlock = some (W.heap.size + 1)) :
    Rows2 B (w3.setCell ⟨g, k, none⟩ v') (.slice (some ⟨g, 0, none⟩) LL.length cap) (LL.set k (L ++ [c])) (vs.set k v') := by
  have hl := h.len
  have hkl : k < LL.length := (List.getElem?_eq_some_iff.1 hk).1
  obtain ⟨u1, h1, h2⟩ := h.el k L hk
  obtain rfl : u = u1 := by rw [hu] at h1; exact Option.some.inj h1
  have hout : w3.ownsRow B 26 1 (.slice (some ⟨g, 0, none⟩) LL.length cap) LL.length vs := (h.out.alloc o).kept hg (types_ne h.out h2 (by decide))
  have hst := hout.stored k v'
  have hbn : ∀ (x : Value) (n : Nat) (xs : List Value), w3.ownsRow B 9 1 x n xs → x.ownBlock ≠ some g := fun x n xs hx => by
    rcases types_ne hx hout (by decide) with e | e
    · rw [e]; simp
    · exact e
  refine ⟨by rw [List.length_set]; exact hst.1, fun i Li hi => ?_, fun i j x x' hij hx hx' => ?_⟩
  · by_cases e : i = k
    · subst e
      rw [List.getElem?_set_self hkl] at hi
      cases hi
      exact ⟨v', List.getElem?_set_self (by omega), by rw [List.length_append, strs_app]; exact ownsRow_setCell_other ho (hbn v' _ _ ho) _⟩
    · rw [List.getElem?_set_ne (Ne.symm e)] at hi
      obtain ⟨x, h3, h4⟩ := h.el i Li hi
      have h5 : w3.ownsRow B 9 1 x Li.length (strs Li) := (h4.alloc o).kept hg (h.ap i k x u e h3 hu)
      exact ⟨x, by rw [List.getElem?_set_ne (Ne.symm e)]; exact h3, ownsRow_setCell_other h5 (hbn x _ _ h5) _⟩
  · have old : ∀ (i : Nat) (x : Value), i ≠ k → vs[i]? = some x → x.ownBlock = none ∨ x.ownBlock ≠ v'.ownBlock := fun i x hik hx => by
      rcases ha with e | e
      · rw [e]; exact h.ap i k x u hik hx hu
      · rw [e]
        cases hb : x.ownBlock with
        | none => exact .inl rfl
        | some b =>
          refine .inr (fun e2 => ?_)
          have hil : i < LL.length := by have := (List.getElem?_eq_some_iff.1 hx).1; omega
          obtain ⟨y, h6, h7⟩ := h.el i LL[i] (List.getElem?_eq_getElem hil)
          obtain rfl : x = y := by rw [hx] at h6; exact Option.some.inj h6
          have := (h7.lt b hb).2
          simp at e2
          omega
    have sym : ∀ (a b : Value), (a.ownBlock = none ∨ a.ownBlock ≠ b.ownBlock) → (b.ownBlock = none ∨ b.ownBlock ≠ a.ownBlock) := fun a b hab => by
      rcases hab with e | e
      · cases hb : b.ownBlock
        · exact .inl rfl
        · exact .inr (by rw [e]; simp)
      · exact .inr (fun q => e q.symm)
    by_cases e : i = k
    · subst e
      rw [List.getElem?_set_self (by omega)] at hx
      cases hx
      rw [List.getElem?_set_ne hij] at hx'
      exact sym _ _ (old j x' (Ne.symm hij) hx')
    · rw [List.getElem?_set_ne (Ne.symm e)] at hx
      by_cases e2 : j = k
      · subst e2
        rw [List.getElem?_set_self (by omega)] at hx'
        cases hx'
        exact old i x e hx
      · rw [List.getElem?_set_ne (Ne.symm e2)] at hx'
        exact h.ap i j x x' hij hx hx'
/-- Rows of rows of texts that may be read. -/
def RowsV (W : World) (v : Value) (LL : List (List Bs)) : Prop := ∃ x c, v = .slice x LL.length c ∧ LL.length ≤ c ∧ LL.length ≤ 1000000 ∧ (LL ≠ [] → ∃ g, x = some ⟨g, 0, none⟩ ∧ g < W.heap.size ∧ ∀ (i : Nat) (L : List Bs), LL[i]? = some L → ∃ u, W.cell? ⟨g, i, none⟩ = some u ∧ TxV W u L)
theorem RowsV.below {W W' : World} {v : Value} {LL : List (List Bs)} (h : RowsV W v LL) (hB : Below W.heap.size W W') : RowsV W' v LL := by
  obtain ⟨x, c, h1, h2, h3, h4⟩ := h
  refine ⟨x, c, h1, h2, h3, fun hn => ?_⟩
  obtain ⟨g, k1, k2, k3⟩ := h4 hn
  refine ⟨g, k1, Nat.lt_of_lt_of_le k2 hB.size, fun i L hi => ?_⟩
  obtain ⟨u, e1, e2⟩ := k3 i L hi
  exact ⟨u, (hB.cell (p := ⟨g, i, none⟩) k2).trans e1, e2.below hB⟩
theorem Rows2.view {B : Nat} {W : World} {v : Value} {LL : List (List Bs)} {vs : List Value} (h : Rows2 B W v LL vs) (hL : LL.length ≤ 1000000) (hE : ∀ L ∈ LL, L.length ≤ 1000000) : RowsV W v LL := by
  have hl := h.len
  obtain ⟨x, c, rfl⟩ := ownsRow_is h.out
  rcases Nat.eq_zero_or_pos LL.length with e | e
  · have hn : LL = [] := List.length_eq_zero_iff.1 e
    subst hn
    exact ⟨x, c, rfl, Nat.zero_le _, by simp, fun h => absurd rfl h⟩
  · rcases h.out.2 with ⟨hv, h0⟩ | ⟨g, cap, cur, hv, hb, hg, hnc, _⟩
    · omega
    · obtain ⟨rfl, rfl⟩ : x = some ⟨g, 0, none⟩ ∧ c = cap := by simpa using hv
      refine ⟨_, c, rfl, hnc, hL, fun _ => ⟨g, rfl, (Array.getElem?_eq_some_iff.1 hg).1, fun i L hi => ?_⟩⟩
      obtain ⟨u, h1, h2⟩ := h.el i L hi
      have hil := (List.getElem?_eq_some_iff.1 hi).1
      exact ⟨u, (h.out.cellAt i (by omega)).trans h1, TxV.of_row h2 (hE L (List.mem_of_getElem? hi))⟩
end Go.Proofs.YtdehjofmangmbaaGreat
/- Walks: words, Words. -/
namespace Go.Proofs.YtdehjofmangmbaaGreat
open Go.RowKit Go.Shelf
theorem info_row : ∃ i0, Tryz.prog.info? 26 = some i0 ∧ i0.zero = some (.slice none 0 0) ∧ i0.size = 1 ∧ i0.bytes = 24 :=
  info_parts (show (Tryz.prog.info? 26).map (fun i => (i.zero, i.size, i.bytes)) = some (some (.slice none 0 0), 1, 24) by kernel_rfl)
theorem take_snocB (l : List Bs) (j : Nat) (h : j < l.length) : l.take (j + 1) = l.take j ++ [l.getD j []] := by
  rw [List.take_succ_eq_append_getElem h, List.getD_eq_getElem?_getD, List.getElem?_eq_getElem h]; rfl
theorem tx_first {c : Bs} (h : c ≠ []) : ∃ b : UInt8, c.getD 0 0 = b ∧ ∃ hs : 0 < (tx c).size, (tx c)[0]'hs = b := by
  obtain ⟨b, t, rfl⟩ := List.exists_cons_of_ne_nil h
  exact ⟨b, rfl, by simp [tx, ByteArray.size], by simp [tx, ByteArray.getElem_eq_getElem_data]⟩
theorem len_sum : ∀ (LL : List (List Bs)) (m : Nat), m < LL.length → (LL.getD m []).length ≤ (LL.map List.length).sum
  | [], m, h => by simp at h
  | L :: r, 0, _ => by simp
  | L :: r, m + 1, h => by
    have := len_sum r m (by simpa using h)
    simp only [List.getD_cons_succ, List.map_cons, List.sum_cons]
    omega
theorem tx_firstU {c : Bs} {U : ByteArray} (h : c ≠ []) (hU : U = tx c) : ∃ b : UInt8, c.getD 0 0 = b ∧ ∃ hs : 0 < U.size, U[0]'hs = b := by subst hU; exact tx_first h
/-- What words' loop keeps. -/
structure WdI (w1 : World) (S : List (List Bs) × Bool) (v : Value) (W : World) : Prop where
  ex : ∃ vs, Rows2 w1.heap.size W v S.1 vs
  bel : Below w1.heap.size w1 W
theorem Rows2.kept {B : Nat} {W w3 : World} {v u : Value} {LL : List (List Bs)} {vs : List Value} {L : List Bs} {o : Obj} (h : Rows2 B W v LL vs) (hu : W.ownsRow B 9 1 u L.length (strs L)) (hg : (W.alloc o).grownBy w3 u.ownBlock) : w3.ownsRow B 26 1 v LL.length vs := (h.out.alloc o).kept hg (types_ne h.out hu (by decide))
def WdEnd (q : Bs) (w : World) (e : Ending) (w' : World) : Prop := ∃ v, e = .returned v ∧ RowsV w' v (wds q) ∧ Below w.heap.size w w'
set_option maxRecDepth 100000 in
set_option maxHeartbeats 4000000 in
theorem wwords (q : Bs) (hq : q.length ≤ 10000) (w : World) : Calls Tryz.prog 35 #[.string (tx q)] w (WdEnd q w) := by
  unfold WdEnd
  have HC := Lib.hid (fun W => wcl q hq W)
  unfold ClEnd at HC
  have HNE := Lib.hid (clS_ne q)
  have HLN := Lib.hid (clS_len q)
  have HQ := Lib.hid hq
  have HW : Hid (wds q = (wdF (clS q)).1) := Lib.hid rfl
  obtain ⟨i3, hi, hi0, hi1, hi2⟩ := info_row
  have HP := Lib.hid (And.intro hi (And.intro hi0 (And.intro hi1 hi2)))
  obtain ⟨i9, hi, hi0, hi1, hi2⟩ := info_parts9
  have HP9 := Lib.hid (And.intro hi (And.intro hi0 (And.intro hi1 hi2)))
  clear hi hi0 hi1 hi2 hq
  obtain ⟨cs, hcs⟩ : ∃ cs, cs = clS q := ⟨_, rfl⟩
  rw [← hcs] at HC HNE HLN HW
  generalize tx q = T at HC ⊢
  clear hcs
  go_enter Tryz.func35, Tryz.ntmps35
  go_wp2_with (first | (go_at_call 30; fail))
  go_at_call 30
  refine (HC.out _).mono ?_
  rintro e w1 ⟨v9, rfl, hv, hb⟩
  obtain ⟨x9, c9, rfl⟩ := ownsRow_is hv
  have HR := Lib.hid (fun (W : World) (hB : Below w1.heap.size w1 W) (j : Nat) (hj : j < cs.length) => rowK_get (row_kept hv (fun k hk => hB.block k (hv.lt k hk).2)) j hj)
  obtain ⟨n, hn⟩ : ∃ n, n = cs.length := ⟨_, rfl⟩
  have HN := Lib.hid hn
  have hn9 : n ≤ 700000 := by have := HLN.out; have := HQ.out; omega
  have H1 : Hid (WdI w1 ([], false) (.slice none 0 0) w1) := Lib.hid ⟨⟨[], Rows2.nil _ _⟩, Below.refl _ _⟩
  have HBW := Lib.hid hb
  rw [← hn]
  clear hv hb hn HC
  go_wp2
  go_loopw [3, 4, 11] (fun v o i wr => ∃ (j : Nat) (op : Bool), i = .int .i64 (j : Int) ∧ j ≤ n ∧ o = .bool op ∧ op = (wdF (cs.take j)).2 ∧ Hid (WdI w1 (wdF (cs.take j)) v wr)) (fun _ _ i _ => n - (intOf i).toNat)
  case atStart => exact ⟨0, false, rfl, Nat.zero_le _, rfl, rfl, H1⟩
  case round =>
    clear H1
    obtain ⟨j, op, rfl, hj, rfl, hop, HI⟩ := hrel
    have HOP := Lib.hid hop
    clear hop
    have i1 : (0 : Int) ≤ (j : Int) := by omega
    by_cases hlt : j < n
    · have i2 : (j : Int) < (n : Int) := by omega
      have hjl : j < cs.length := by have := HN.out; omega
      obtain ⟨g9, rfl, hg9, hgc, hget⟩ := HR.out wr HI.out.bel j hjl
      have ce := hget j hjl
      have HTK := Lib.hid (take_snocB cs j hjl)
      have hcne : cs.getD j [] ≠ [] := HNE.out _ (by rw [List.getD_eq_getElem?_getD, List.getElem?_eq_getElem hjl]; exact List.getElem_mem hjl)
      have HSN := Lib.hid (wdF_snoc (cs.take j) (cs.getD j []))
      rw [← HTK.out] at HSN
      have HFL := Lib.hid (wdF_len (cs.take j))
      have HFS := Lib.hid (wdF_flat (cs.take j))
      obtain ⟨c, hc⟩ : ∃ c, c = cs.getD j [] := ⟨_, rfl⟩
      rw [← hc] at ce hcne HSN
      obtain ⟨⟨LL, op2⟩, hS⟩ : ∃ S, S = wdF (cs.take j) := ⟨_, rfl⟩
      rw [← hS] at HI HSN HOP HFL HFS
      have HOP2 : Hid (op = op2) := Lib.hid HOP.out
      have hLn : LL.length ≤ 700000 := by have := HFL.out.1; simp at this; omega
      obtain ⟨U, hU⟩ : ∃ U, U = tx c := ⟨_, rfl⟩
      have HU := Lib.hid hU
      rw [← hU] at ce
      obtain ⟨b, hb0, hbs, hbx2⟩ := tx_firstU hcne hU
      obtain ⟨⟨vs, h2⟩, hbel⟩ := HI.out
      have h2 : Rows2 w1.heap.size wr _ LL vs := h2
      obtain ⟨xv, cv, rfl⟩ := ownsRow_is h2.out
      have H2 := Lib.hid h2
      have HBL := Lib.hid hbel
      have hbsz := hbel.size
      clear hget hc hS hU HI HOP hcne hgc h2 hbel
      have i0 : (0 : Int) < (U.size : Int) := by omega
      by_cases hb32 : b = 32
      · subst hb32
        have HS : Hid (wdF (cs.take (j + 1)) = (LL, false)) := Lib.hid (by rw [HSN.out]; unfold wdR isBl; rw [hb0]; rfl)
        clear HSN hb0
        go_wp2
        go_roundw
        case rel => exact ⟨j + 1, false, by go_num, by omega, rfl, by rw [HS.out], Lib.hid (by rw [HS.out]; exact ⟨⟨vs, H2.out⟩, HBL.out⟩)⟩
        case measure => simp [intOf]; omega
      · have hbl : isBl c = false := by unfold isBl; rw [hb0]; simpa using hb32
        have HB32 : ((b.toNat : Int) == 32) = false := by
          rw [beq_eq_false_iff_ne]
          intro e
          exact hb32 (UInt8.toNat_inj.1 (by have : (32 : UInt8).toNat = 32 := rfl; omega))
        cases op
        · have HS : Hid (wdF (cs.take (j + 1)) = (LL ++ [[c]], true)) := Lib.hid (by rw [HSN.out]; unfold wdR; rw [hbl, ← HOP2.out]; rfl)
          clear HSN hb0 hbl hb32
          obtain ⟨m, hm⟩ : ∃ m, m = LL.length := ⟨_, rfl⟩
          have HM := Lib.hid hm
          go_wp2_with (at_builtin; go_loud (refine wpList_append_own _ rfl _ _ 51 rfl w1.heap.size 26 i3 (.slice none 0 0) 1 24 Tryz.underlying51 HP.out.1 HP.out.2.1 HP.out.2.2.1 HP.out.2.2.2 rfl (by decide) _ _ _ rfl (H2.out.out.alloc _) ⟨wr.heap.size, 0, none⟩ 1 1 [.slice none 0 0] rfl rfl (cell_one_new _ _ _) (by simp [Value.oneCell']) (by unfold maxLen; omega) (by omega) (by simp; omega) ?_))
          intro v' w3 ho hg _
          have HB3 : Hid (Below w1.heap.size w1 w3) := Lib.hid ((HBL.out.alloc HBL.out.size _).grown hg (by simp; omega) (fun k e => (H2.out.out.lt k e).1))
          obtain ⟨g, cap, rfl⟩ := ownsRow_succ ho
          have hr3 := H2.out.push ho hg
          have HR3 : Hid (Rows2 w1.heap.size w3 (.slice (some ⟨g, 0, none⟩) (LL ++ [[]]).length cap) (LL ++ [[]]) (vs ++ [.slice none 0 0])) := Lib.hid (by rw [List.length_append]; exact hr3)
          have HLN2 : Hid ((LL ++ [[]]).length = m + 1) := Lib.hid (by rw [hm]; simp)
          have HLK : Hid ((LL ++ [([] : List Bs)])[m]? = some []) := Lib.hid (by rw [hm, List.getElem?_append_right (Nat.le_refl _)]; simp)
          have HFX : Hid ((LL ++ [([] : List Bs)]).set m ([] ++ [c]) = LL ++ [[c]]) := Lib.hid (by rw [hm, List.set_append_right _ _ (Nat.le_refl _)]; simp)
          rw [← hm]
          rw [← hm] at hLn
          have hlx := HM.out
          clear ho hg hr3 hm
          have hlv := H2.out.len
          have HUE := Lib.hid (World.ownsRow_nil w3 w1.heap.size 9 1)
          have HUU : Hid ((vs ++ [Value.slice none 0 0])[m]? = some (Value.slice none 0 0)) := Lib.hid (by rw [hlx, ← hlv, List.getElem?_append_right (Nat.le_refl _)]; simp)
          have huu := HUU.out
          have ce3 : w3.cell? ⟨g, m, none⟩ = some (.slice none 0 0) := (HR3.out.out.cellAt m (by rw [HLN2.out]; omega)).trans huu
          have hbs3 := HB3.out.size
          clear huu hlv hlx
          go_wp2_with (at_builtin; go_loud (refine wpList_append_own_at _ rfl _ _ 26 rfl w1.heap.size 9 i9 (.string ⟨#[]⟩) 1 16 Tryz.underlying26 HP9.out.1 HP9.out.2.1 HP9.out.2.2.1 HP9.out.2.2.2 rfl (by decide) _ _ _ rfl (HUE.out.alloc _) ⟨w3.heap.size, 0, none⟩ 1 1 [.string U] rfl rfl (cell_one_new _ _ _) (by simp [Value.oneCell']) (by unfold maxLen; omega) (by omega) (by simp; omega) ?_))
          intro v2 w4 ho2 hg2 _ ha2
          obtain ⟨x2, c2, rfl⟩ := ownsRow_is ho2
          have HR4 := Lib.hid (HR3.out.app HLK.out HUU.out (by rw [HU.out] at ho2; exact ho2) hg2 ha2)
          have HO4 := Lib.hid (HR3.out.kept (L := []) HUE.out hg2)
          have c4 : w4.cell? ⟨g, m, none⟩ = some (.slice none 0 0) := (HO4.out.cellAt m (by rw [HLN2.out]; omega)).trans HUU.out
          have f4 : w4.frozen? ⟨g, m, none⟩ = false := HO4.out.frozenAt m
          have HB4 : Hid (Below w1.heap.size w1 (w4.setCell ⟨g, m, none⟩ (.slice x2 1 c2))) := Lib.hid (((HB3.out.alloc HB3.out.size _).grown hg2 (by simp; omega) (fun k e => (HUE.out.lt k e).1)).setCell (p := ⟨g, m, none⟩) (HO4.out.lt g rfl).1 _)
          clear ho2 hg2 ha2 ce3
          go_wp2
          go_roundw
          case rel => exact ⟨j + 1, true, by go_num, by omega, rfl, by rw [HS.out], Lib.hid (by rw [HS.out]; exact ⟨⟨_, by rw [← HFX.out]; have h := HR4.out; rw [HLN2.out] at h; exact h⟩, HB4.out⟩)⟩
          case measure => simp [intOf]; omega
        · obtain ⟨m, hm⟩ : ∃ m, LL.length = m + 1 := ⟨LL.length - 1, by have h1 : LL ≠ [] := HFL.out.2 HOP2.out.symm; have := List.length_pos_iff.2 h1; omega⟩
          have HLN2 := Lib.hid hm
          have HS : Hid (wdF (cs.take (j + 1)) = (LL.set m (LL.getD m [] ++ [c]), true)) := Lib.hid (by rw [HSN.out]; unfold wdR; rw [hbl, ← HOP2.out]; simp only [Bool.false_eq_true, if_false, if_true]; rw [hm]; rfl)
          clear HSN hb0 hbl hb32
          have ho := H2.out.out
          rw [hm] at ho
          obtain ⟨g, cap, hgc⟩ := ownsRow_succ ho
          obtain ⟨rfl, rfl⟩ : xv = some ⟨g, 0, none⟩ ∧ cv = cap := by simpa using hgc
          have HLK : Hid (LL[m]? = some (LL.getD m [])) := Lib.hid (by rw [List.getD_eq_getElem?_getD, List.getElem?_eq_getElem (show m < LL.length by omega)]; rfl)
          have HLE : Hid ((LL.getD m []).length ≤ 700000) := Lib.hid (by
            have h1 : (LL.getD m []).length ≤ (LL.map List.length).sum := len_sum LL m (by omega)
            have h2 := HFS.out
            simp at h2
            omega)
          have hLe := HLE.out
          rw [hm]
          rw [hm] at hLn
          clear ho hgc hm
          generalize LL.getD m [] = LX at *
          have hlv := H2.out.len
          obtain ⟨uu, huu, hue⟩ := H2.out.el m LX HLK.out
          obtain ⟨xu, cu, rfl⟩ := ownsRow_is hue
          have HUE := Lib.hid hue
          have HUU := Lib.hid huu
          have ce3 : wr.cell? ⟨g, m, none⟩ = some (.slice xu LX.length cu) := (H2.out.out.cellAt m (by rw [HLN2.out]; omega)).trans huu
          have hbs3 := HBL.out.size
          clear hue huu hlv
          go_wp2_with (at_builtin; go_loud (refine wpList_append_own_at _ rfl _ _ 26 rfl w1.heap.size 9 i9 (.string ⟨#[]⟩) 1 16 Tryz.underlying26 HP9.out.1 HP9.out.2.1 HP9.out.2.2.1 HP9.out.2.2.2 rfl (by decide) _ _ _ rfl (HUE.out.alloc _) ⟨wr.heap.size, 0, none⟩ 1 1 [.string U] rfl rfl (cell_one_new _ _ _) (by simp [Value.oneCell']) (by unfold maxLen; omega) (by omega) (by simp; omega) ?_))
          intro v2 w4 ho2 hg2 _ ha2
          obtain ⟨x2, c2, rfl⟩ := ownsRow_is ho2
          have HR4 := Lib.hid (H2.out.app HLK.out HUU.out (by rw [HU.out] at ho2; exact ho2) hg2 ha2)
          have HO4 := Lib.hid (H2.out.kept HUE.out hg2)
          have c4 : w4.cell? ⟨g, m, none⟩ = some (.slice xu LX.length cu) := (HO4.out.cellAt m (by rw [HLN2.out]; omega)).trans HUU.out
          have f4 : w4.frozen? ⟨g, m, none⟩ = false := HO4.out.frozenAt m
          have HB4 : Hid (Below w1.heap.size w1 (w4.setCell ⟨g, m, none⟩ (.slice x2 (LX.length + 1) c2))) := Lib.hid (((HBL.out.alloc HBL.out.size _).grown hg2 (by simp; omega) (fun k e => (HUE.out.lt k e).1)).setCell (p := ⟨g, m, none⟩) (HO4.out.lt g rfl).1 _)
          clear ho2 hg2 ha2 ce3
          go_wp2
          go_roundw
          case rel => exact ⟨j + 1, true, by go_num, by omega, rfl, by rw [HS.out], Lib.hid (by rw [HS.out]; exact ⟨⟨_, by have h := HR4.out; rw [HLN2.out] at h; exact h⟩, HB4.out⟩)⟩
          case measure => simp [intOf]; omega
    · obtain rfl : j = n := by omega
      obtain ⟨vs, h2⟩ := HI.out.ex
      obtain ⟨xv, cv, hxv⟩ := ownsRow_is h2.out
      subst hxv
      have HV : Hid (RowsV wr (.slice xv (wdF (cs.take j)).1.length cv) (wds q)) := Lib.hid (by
        rw [List.take_of_length_le (by have := HN.out; omega), ← HW.out] at h2 ⊢
        have h3 := wdF_len cs
        have h4 := wdF_flat cs
        rw [← HW.out] at h3 h4
        refine h2.view (by have := HN.out; omega) (fun L hL => ?_)
        obtain ⟨m, hm, rfl⟩ := List.getElem_of_mem hL
        have h5 := len_sum (wds q) m hm
        rw [List.getD_eq_getElem?_getD, List.getElem?_eq_getElem hm] at h5
        have h6 : (wds q)[m].length ≤ ((wds q).map List.length).sum := h5
        have := HN.out
        omega)
      have HB := Lib.hid (HBW.out.trans (below_le HI.out.bel HBW.out.size))
      clear HI HOP h2
      generalize (wdF (cs.take j)).1.length = N at HV ⊢
      go_wp2
      go_ret
      exact ⟨_, rfl, HV.out, HB.out⟩
theorem wds_sum (q : Bs) : ((wds q).map List.length).sum ≤ (clS q).length := wdF_flat (clS q)
theorem wds_len (q : Bs) : (wds q).length ≤ (clS q).length := (wdF_len (clS q)).1
/-- Each cluster of a word is one of the query's. -/
theorem wdF_mem (cs : List Bs) : ∀ L ∈ (wdF cs).1, ∀ c ∈ L, c ∈ cs := by
  have : ∀ (cs : List Bs) (s : List (List Bs) × Bool) (T : List Bs), (∀ L ∈ s.1, ∀ c ∈ L, c ∈ T) → ∀ L ∈ (cs.foldl wdR s).1, ∀ c ∈ L, c ∈ T ++ cs := by
    intro cs
    induction cs with
    | nil => intro s T h; simpa using h
    | cons c r ih =>
      intro s T h L hL x hx
      have := ih (wdR s c) (T ++ [c]) (fun L hL x hx => by
        unfold wdR at hL
        split at hL
        · exact List.mem_append_left _ (h L hL x hx)
        · split at hL
          · obtain ⟨m, hm, e⟩ := List.getElem_of_mem hL
            rw [List.getElem_set] at e
            split at e
            · subst e
              rcases List.mem_append.1 hx with q | q
              · refine List.mem_append_left _ ?_
                rw [List.getD_eq_getElem?_getD] at q
                cases hq : s.1[s.1.length - 1]? with
                | none => rw [hq] at q; simp at q
                | some y => rw [hq] at q; exact h y (List.mem_of_getElem? hq) x q
              · exact List.mem_append_right _ q
            · subst e
              exact List.mem_append_left _ (h _ (List.getElem_mem _) x hx)
          · rcases List.mem_append.1 hL with q | q
            · exact List.mem_append_left _ (h L q x hx)
            · simp at q; subst q
              exact List.mem_append_right _ hx) L hL x hx
      simpa using this
  have h := this cs ([], false) [] (by simp)
  simpa [wdF] using h
theorem wds_mem (q : Bs) : ∀ L ∈ wds q, ∀ c ∈ L, c ∈ clS q := wdF_mem (clS q)
theorem wds_flat (q : Bs) (L : List Bs) (hL : L ∈ wds q) : L.flatten.length ≤ 64 * (clS q).length := by
  have h1 := flat_short L (fun c hc => clS_short q c (wds_mem q L hL c hc))
  obtain ⟨m, hm, e⟩ := List.getElem_of_mem hL
  have h5 := len_sum (wds q) m hm
  rw [List.getD_eq_getElem?_getD, List.getElem?_eq_getElem hm] at h5
  have h6 : L.length ≤ ((wds q).map List.length).sum := by rw [← e]; exact h5
  have := wds_sum q
  omega
/-- What Words gives. -/
def WrdEnd (q : Bs) (w : World) (e : Ending) (w' : World) : Prop := ∃ v, e = .returned v ∧ w'.ownsRow w.heap.size 9 1 v (wds q).length (strs ((wds q).map List.flatten)) ∧ Below w.heap.size w w'
set_option maxRecDepth 100000 in
set_option maxHeartbeats 4000000 in
theorem wWords (q : Bs) (hq : q.length ≤ 10000) (w : World) : Calls Tryz.prog 13 #[.string (tx q)] w (WrdEnd q w) := by
  unfold WrdEnd
  have HC := Lib.hid (fun W => wwords q hq W)
  unfold WdEnd at HC
  have HLN : Hid ((wds q).length ≤ 700000 ∧ ∀ L ∈ wds q, L.flatten.length ≤ 1000000000) := Lib.hid ⟨by have := wds_len q; have := clS_len q; omega, fun L hL => by have := wds_flat q L hL; have := clS_len q; omega⟩
  obtain ⟨i9, hi, hi0, hi1, hi2⟩ := info_parts9
  have HP9 := Lib.hid (And.intro hi (And.intro hi0 (And.intro hi1 hi2)))
  clear hi hi0 hi1 hi2 hq
  generalize wds q = LL at HC HLN ⊢
  obtain ⟨FL, hFL⟩ : ∃ FL, FL = LL.map List.flatten := ⟨_, rfl⟩
  have HFL := Lib.hid hFL
  rw [← hFL]
  clear hFL
  generalize tx q = T at HC ⊢
  go_enter Tryz.func13, Tryz.ntmps13
  go_wp2_with (first | (go_at_call 35; fail))
  go_at_call 35
  refine (HC.out _).mono ?_
  rintro e w1 ⟨v7, rfl, hv, hb⟩
  obtain ⟨x7, c7, rfl, hc7, hl7, hg7⟩ := hv
  have HG := Lib.hid hg7
  have HB := Lib.hid hb
  obtain ⟨n, hn⟩ : ∃ n, n = LL.length := ⟨_, rfl⟩
  have HN := Lib.hid hn
  have hn7 : n ≤ 700000 := by have := HLN.out.1; omega
  rw [← hn]
  clear hg7 hb hn HC hc7 hl7
  go_wp2
  go_loopw [3, 9] (fun v i wr => ∃ j : Nat, i = .int .i64 (j : Int) ∧ j ≤ n ∧ Hid (wr.ownsRow w1.heap.size 9 1 v j (strs (FL.take j)) ∧ Below w1.heap.size w1 wr)) (fun _ i _ => n - (intOf i).toNat)
  case atStart => exact ⟨0, rfl, Nat.zero_le _, Lib.hid ⟨World.ownsRow_nil _ _ _ _, Below.refl _ _⟩⟩
  case round =>
    obtain ⟨j, rfl, hj, HI⟩ := hrel
    have i1 : (0 : Int) ≤ (j : Int) := by omega
    obtain ⟨xv, cv, rfl⟩ := ownsRow_is HI.out.1
    by_cases hlt : j < n
    · have i2 : (j : Int) < (n : Int) := by omega
      have hjl : j < LL.length := by have := HN.out; omega
      obtain ⟨g, rfl, hg, hget⟩ := HG.out (List.ne_nil_of_length_pos (by omega))
      obtain ⟨u, hu1, hu2⟩ := hget j LL[j] (List.getElem?_eq_getElem hjl)
      have ce : wr.cell? ⟨g, j, none⟩ = some u := (HI.out.2.cell (p := ⟨g, j, none⟩) hg).trans hu1
      have HT := Lib.hid (fun W (h : TxV W u LL[j]) => wtext u LL[j] (HLN.out.2 _ (List.getElem_mem hjl)) W h)
      have HU := Lib.hid (hu2.below HI.out.2)
      have HTK : Hid (strs (FL.take (j + 1)) = strs (FL.take j) ++ [.string (tx LL[j].flatten)]) := Lib.hid (by
        have h1 : j < FL.length := by rw [HFL.out, List.length_map]; exact hjl
        rw [List.take_succ_eq_append_getElem h1, strs_app]
        have h2 : FL[j] = LL[j].flatten := by simp [HFL.out]
        rw [h2]; rfl)
      generalize tx LL[j].flatten = X at HT HTK
      have hbs := HI.out.2.size
      have hbw := HB.out.size
      clear hu1 hu2 hget
      obtain ⟨xu, nu, cu, hxu⟩ : ∃ xu nu cu, u = .slice xu nu cu := by obtain ⟨a, b, h, _⟩ := HU.out.old; exact ⟨a, _, b, h⟩
      subst hxu
      go_wp2_with (first | (go_at_call 36; refine (HT.out _ HU.out).mono ?_; rintro e w9 ⟨rfl, rfl⟩) | (at_builtin; go_loud (refine wpList_append_own _ rfl _ _ 26 rfl w1.heap.size 9 i9 (.string ⟨#[]⟩) 1 16 Tryz.underlying26 HP9.out.1 HP9.out.2.1 HP9.out.2.2.1 HP9.out.2.2.2 rfl (by decide) _ _ _ rfl (HI.out.1.alloc _) ⟨wr.heap.size, 0, none⟩ 1 1 [.string X] rfl rfl (cell_one_new _ _ _) (by simp [Value.oneCell']) (by unfold maxLen; omega) (by omega) (by simp; omega) ?_)))
      intro v' w4 ho hg4 _
      have HO4 : Hid (w4.ownsRow w1.heap.size 9 1 v' (j + 1) (strs (FL.take (j + 1)))) := Lib.hid (by rw [HTK.out]; exact ho)
      have HB4 : Hid (Below w1.heap.size w1 w4) := Lib.hid ((HI.out.2.alloc HI.out.2.size _).grown hg4 (by simp; omega) (fun k e => (HI.out.1.lt k e).1))
      clear ho hg4
      go_wp2
      go_roundw
      case rel => exact ⟨j + 1, by go_num, by omega, Lib.hid ⟨HO4.out, HB4.out⟩⟩
      case measure => simp [intOf]; omega
    · obtain rfl : j = n := by omega
      have i2 : ¬ (j : Int) < (j : Int) := by omega
      have HE : Hid (wr.ownsRow w.heap.size 9 1 (.slice xv j cv) LL.length (strs FL)) := Lib.hid (by
        have e := HN.out
        have := World.ownsRow.mono HI.out.1 HB.out.size
        rw [List.take_of_length_le (by rw [HFL.out, List.length_map, e]; exact Nat.le_refl _)] at this
        rw [← e]
        exact this)
      go_wp2
      go_ret
      exact ⟨_, rfl, HE.out, HB.out.trans (below_le HI.out.2 HB.out.size)⟩
end Go.Proofs.YtdehjofmangmbaaGreat
/- Walks: the reference's Words. -/
namespace Go.Proofs.YtdehjofmangmbaaGreat
open Go.RowKit Go.Shelf
theorem wd_blank {cs : List Bs} {i : Nat} (hi : i < cs.length) (h : isBl (cs.getD i []) = true) : wdF (cs.take (i + 1)) = ((wdF (cs.take i)).1, false) := by
  rw [take_snocB cs i hi, wdF_snoc]
  unfold wdR
  rw [if_pos h]
theorem wd_run {cs : List Bs} {i : Nat} (h0 : (wdF (cs.take i)).2 = false) : ∀ m, i + m < cs.length → (∀ q, i ≤ q → q < i + m + 1 → isBl (cs.getD q []) = false) → wdF (cs.take (i + m + 1)) = ((wdF (cs.take i)).1 ++ [(cs.drop i).take (m + 1)], true)
  | 0, hm, hq => by
    rw [take_snocB cs (i + 0) hm, wdF_snoc]
    unfold wdR
    rw [Nat.add_zero, if_neg (by rw [hq i (Nat.le_refl _) (by omega)]; simp)]
    rw [h0]
    simp only [Bool.false_eq_true, if_false]
    rw [List.drop_eq_getElem_cons (by omega), List.getD_eq_getElem?_getD, List.getElem?_eq_getElem (by omega)]
    rfl
  | m + 1, hm, hq => by
    have ih := wd_run h0 m (by omega) (fun q h1 h2 => hq q h1 (by omega))
    rw [show i + (m + 1) + 1 = (i + m + 1) + 1 by omega, take_snocB cs (i + m + 1) (by omega), wdF_snoc, ih]
    unfold wdR
    rw [if_neg (by rw [hq (i + m + 1) (by omega) (by omega)]; simp)]
    simp only [if_true]
    have h1 : (cs.drop i).take (m + 1 + 1) = (cs.drop i).take (m + 1) ++ [cs.getD (i + m + 1) []] := by
      rw [take_snocB (cs.drop i) (m + 1) (by rw [List.length_drop]; omega)]
      simp only [List.getD_eq_getElem?_getD, List.getElem?_drop]
      rw [show i + (m + 1) = i + m + 1 by omega]
    rw [h1]
    simp [List.getD_eq_getElem?_getD]
theorem TxV.sub {W : World} {g c : Nat} {L : List Bs} (hg : g < W.heap.size) (hget : ∀ i, i < L.length → W.cell? ⟨g, i, none⟩ = some (.string (tx (L.getD i [])))) {i k : Nat} (hk : k ≤ L.length) (hc : L.length ≤ c) (hL : L.length ≤ 1000000) : TxV W (.slice (some ⟨g, i, none⟩) (k - i) (c - i)) ((L.drop i).take (k - i)) := by
  have hl : ((L.drop i).take (k - i)).length = k - i := by rw [List.length_take, List.length_drop]; omega
  refine ⟨by rw [hl]; omega, .inr ⟨g, i, c - i, by rw [hl], by rw [hl]; omega, hg, fun j hj => ?_⟩⟩
  rw [hl] at hj
  rw [hget (i + j) (by omega)]
  congr 3
  rw [List.getD_eq_getElem?_getD, List.getD_eq_getElem?_getD, List.getElem?_take_of_lt hj, List.getElem?_drop]
set_option maxRecDepth 100000 in
set_option maxHeartbeats 8000000 in
theorem rWords (q : Bs) (hq : q.length ≤ 10000) (w : World) : Calls Tryz.prog 14 #[.string (tx q)] w (WrdEnd q w) := by
  unfold WrdEnd
  have HC := Lib.hid (fun W => rcl q hq W)
  unfold ClEnd at HC
  have HNE := Lib.hid (clS_ne q)
  have HSH := Lib.hid (clS_short q)
  have HLN := Lib.hid (clS_len q)
  have HQ := Lib.hid hq
  have HW : Hid (wds q = (wdF (clS q)).1) := Lib.hid rfl
  obtain ⟨i9, hi, hi0, hi1, hi2⟩ := info_parts9
  have HP9 := Lib.hid (And.intro hi (And.intro hi0 (And.intro hi1 hi2)))
  clear hi hi0 hi1 hi2 hq
  obtain ⟨cs, hcs⟩ : ∃ cs, cs = clS q := ⟨_, rfl⟩
  rw [← hcs] at HC HNE HLN HW HSH
  generalize tx q = T at HC ⊢
  clear hcs
  go_enter Tryz.func14, Tryz.ntmps14
  go_wp2_with (first | (go_at_call 28; fail))
  go_at_call 28
  refine (HC.out _).mono ?_
  rintro e w1 ⟨v9, rfl, hv, hb⟩
  obtain ⟨x9, c9, rfl⟩ := ownsRow_is hv
  have HR := Lib.hid (fun (W : World) (hB : Below w1.heap.size w1 W) (j : Nat) (hj : j < cs.length) => rowK_get (row_kept hv (fun k hk => hB.block k (hv.lt k hk).2)) j hj)
  obtain ⟨n, hn⟩ : ∃ n, n = cs.length := ⟨_, rfl⟩
  have HN := Lib.hid hn
  have hn9 : n ≤ 700000 := by have := HLN.out; have := HQ.out; omega
  have HBW := Lib.hid hb
  rw [← hn]
  clear hv hb hn HC
  go_wp2
  go_loopw [4, 5] (fun v i wr => ∃ j : Nat, i = .int .i64 (j : Int) ∧ j ≤ n + 1 ∧ Hid (j ≤ n → (wdF (cs.take j)).2 = false) ∧ Hid (wr.ownsRow w1.heap.size 9 1 v (wdF (cs.take j)).1.length (strs ((wdF (cs.take j)).1.map List.flatten)) ∧ Below w1.heap.size w1 wr)) (fun _ i _ => n + 1 - (intOf i).toNat)
  case atStart => exact ⟨0, rfl, Nat.zero_le _, Lib.hid (fun _ => rfl), Lib.hid ⟨World.ownsRow_nil _ _ _ _, Below.refl _ _⟩⟩
  case round =>
    obtain ⟨j, rfl, hj, HOP, HI⟩ := hrel
    have i1 : (0 : Int) ≤ (j : Int) := by omega
    obtain ⟨xv, cv, hxv⟩ := ownsRow_is HI.out.1
    subst hxv
    by_cases hlt : j < n
    · have i2 : (j : Int) < (n : Int) := by omega
      have hjl : j < cs.length := by have := HN.out; omega
      obtain ⟨g9, rfl, hg9, hgc, hget⟩ := HR.out wr HI.out.2 j hjl
      have HGET := Lib.hid hget
      have ce := hget j hjl
      have hcne : cs.getD j [] ≠ [] := HNE.out _ (by rw [List.getD_eq_getElem?_getD, List.getElem?_eq_getElem hjl]; exact List.getElem_mem hjl)
      obtain ⟨U, hU⟩ : ∃ U, U = tx (cs.getD j []) := ⟨_, rfl⟩
      rw [← hU] at ce
      obtain ⟨b, hb0, hbs, hbx2⟩ := tx_firstU hcne hU
      clear hU hget hcne
      have i0 : (0 : Int) < (U.size : Int) := by omega
      have HOP1 := Lib.hid (HOP.out (by omega))
      have HWL := Lib.hid (wdF_len (cs.take j))
      by_cases hb32 : b = 32
      · subst hb32
        have HS := Lib.hid (wd_blank hjl (show isBl (cs.getD j []) = true by unfold isBl; rw [hb0]; rfl))
        clear hb0
        go_wp2
        go_roundw
        case rel => exact ⟨j + 1, by go_num, by omega, Lib.hid (fun _ => by rw [HS.out]), Lib.hid (by rw [HS.out]; exact HI.out)⟩
        case measure => simp [intOf]; omega
      · have hbl : isBl (cs.getD j []) = false := by unfold isBl; rw [hb0]; simpa using hb32
        have HBL := Lib.hid hbl
        have HB32 : ((b.toNat : Int) == 32) = false := by
          rw [beq_eq_false_iff_ne]
          intro e
          exact hb32 (UInt8.toNat_inj.1 (by have : (32 : UInt8).toNat = 32 := rfl; omega))
        clear hb0 hbl hb32
        go_wp2
        go_loopw [6] (fun k wk => ∃ m : Nat, k = .int .i64 (m : Int) ∧ j ≤ m ∧ m ≤ n ∧ wk = wr ∧ Hid (∀ q, j ≤ q → q < m → isBl (cs.getD q []) = false)) (fun k _ => n - (intOf k).toNat)
        case atStart => exact ⟨j, rfl, Nat.le_refl _, by omega, rfl, Lib.hid (fun q h1 h2 => by omega)⟩
        case round =>
          obtain ⟨m, rfl, hjm, hm, rfl, HNB⟩ := hrel
          have hmi : (0 : Int) ≤ (m : Int) := by omega
          have hgc2 : n ≤ c9 := by have := HN.out; omega
          by_cases hm2 : m < n
          · have ce2 := HGET.out m (by have := HN.out; omega)
            have hcne2 : cs.getD m [] ≠ [] := HNE.out _ (by rw [List.getD_eq_getElem?_getD, List.getElem?_eq_getElem (by have := HN.out; omega)]; exact List.getElem_mem _)
            obtain ⟨U2, hU2⟩ : ∃ U, U = tx (cs.getD m []) := ⟨_, rfl⟩
            rw [← hU2] at ce2
            obtain ⟨b2, hb2, hbs2, hbx3⟩ := tx_firstU hcne2 hU2
            clear hU2 hcne2
            have i02 : (0 : Int) < (U2.size : Int) := by omega
            by_cases hb32 : b2 = 32
            · have hbl2 : isBl (cs.getD m []) = true := by unfold isBl; rw [hb2, hb32]; rfl
              have HBL2 := Lib.hid hbl2
              subst hb32
              clear hb2 hbl2
              have HJN : Hid (∀ W, Below w1.heap.size w1 W → Calls Tryz.prog 37 #[.slice (some ⟨g9, j, none⟩) (m - j) (c9 - j)] W fun e w' => e = .returned (.string (tx ((cs.drop j).take (m - j)).flatten)) ∧ W = w') := Lib.hid (fun W hW => rjoin _ _ (by
                have h1 := flat_short ((cs.drop j).take (m - j)) (fun c hc => HSH.out c (List.mem_of_mem_drop (List.mem_of_mem_take hc)))
                have h2 : ((cs.drop j).take (m - j)).length ≤ 700000 := by rw [List.length_take]; omega
                omega) W (by
                obtain ⟨g', e', h1, h2, h3⟩ := HR.out W hW j (by have := HN.out; omega)
                obtain rfl : g9 = g' := by simpa using e'
                exact TxV.sub h1 h3 (by have := HN.out; omega) h2 (by have := HN.out; omega)))
              have hjm2 : j < m := by
                rcases Nat.lt_or_ge j m with q | q
                · exact q
                · exfalso
                  obtain rfl : j = m := by omega
                  rw [HBL.out] at HBL2; exact absurd HBL2.out (by simp)
              have HRUN := Lib.hid (wd_run HOP1.out (m - j - 1) (by have := HN.out; omega) (fun q h1 h2 => HNB.out q h1 (by omega)))
              rw [show j + (m - j - 1) + 1 = m by omega, show m - j - 1 + 1 = m - j by omega] at HRUN
              have hmc : m ≤ c9 := by have := HN.out; omega
              obtain ⟨X, hX⟩ : ∃ X, X = tx ((cs.drop j).take (m - j)).flatten := ⟨_, rfl⟩
              have HX := Lib.hid hX
              rw [← hX] at HJN
              have hbs := HI.out.2.size
              have hwl := HWL.out.1
              have hwl2 : (wdF (cs.take j)).1.length ≤ 700000 := by rw [List.length_take] at hwl; omega
              clear hX hwl
              go_wp2_with (first | (go_at_call 37; refine (HJN.out _ HI.out.2).mono ?_; rintro e w9 ⟨rfl, rfl⟩) | (at_builtin; go_loud (refine wpList_append_own _ rfl _ _ 26 rfl w1.heap.size 9 i9 (.string ⟨#[]⟩) 1 16 Tryz.underlying26 HP9.out.1 HP9.out.2.1 HP9.out.2.2.1 HP9.out.2.2.2 rfl (by decide) _ _ _ rfl (HI.out.1.alloc _) ⟨wr.heap.size, 0, none⟩ 1 1 [.string X] rfl rfl (cell_one_new _ _ _) (by simp [Value.oneCell']) (by unfold maxLen; omega) (by omega) (by simp; omega) ?_)))
              intro v' w4 ho hg4 _
              have HO4 : Hid (w4.ownsRow w1.heap.size 9 1 v' (wdF (cs.take m)).1.length (strs ((wdF (cs.take m)).1.map List.flatten))) := Lib.hid (by rw [HRUN.out]; simp only [List.length_append, List.map_append, List.map_cons, List.map_nil, strs_app, List.length_cons, List.length_nil]; rw [HX.out] at ho; exact ho)
              have HB4 : Hid (Below w1.heap.size w1 w4) := Lib.hid ((HI.out.2.alloc HI.out.2.size _).grown hg4 (by simp; omega) (fun k e => (HI.out.1.lt k e).1))
              clear ho hg4
              go_wp2
              go_roundw
              case rel => exact ⟨m + 1, by go_num, by omega, Lib.hid (fun _ => by rw [wd_blank (by have := HN.out; omega) HBL2.out]), Lib.hid ⟨by rw [wd_blank (by have := HN.out; omega) HBL2.out]; exact HO4.out, HB4.out⟩⟩
              case measure => simp [intOf]; omega
            · have hbl2 : isBl (cs.getD m []) = false := by unfold isBl; rw [hb2]; simpa using hb32
              have HBL2 := Lib.hid hbl2
              have HB322 : ((b2.toNat : Int) != 32) = true := by
                rw [bne_iff_ne]
                intro e
                exact hb32 (UInt8.toNat_inj.1 (by have : (32 : UInt8).toNat = 32 := rfl; omega))
              clear hb2 hbl2 hb32
              go_wp2
              go_roundw
              case rel => exact ⟨m + 1, by go_num, by omega, by omega, by trivial, Lib.hid (fun q h1 h2 => by
                by_cases e : q = m
                · rw [e]; exact HBL2.out
                · exact HNB.out q h1 (by omega))⟩
              case measure => simp [intOf]; omega
          · obtain rfl : m = n := by omega
            have HJN : Hid (∀ W, Below w1.heap.size w1 W → Calls Tryz.prog 37 #[.slice (some ⟨g9, j, none⟩) (m - j) (c9 - j)] W fun e w' => e = .returned (.string (tx ((cs.drop j).take (m - j)).flatten)) ∧ W = w') := Lib.hid (fun W hW => rjoin _ _ (by
              have h1 := flat_short ((cs.drop j).take (m - j)) (fun c hc => HSH.out c (List.mem_of_mem_drop (List.mem_of_mem_take hc)))
              have h2 : ((cs.drop j).take (m - j)).length ≤ 700000 := by rw [List.length_take]; omega
              omega) W (by
              obtain ⟨g', e', h1, h2, h3⟩ := HR.out W hW j (by have := HN.out; omega)
              obtain rfl : g9 = g' := by simpa using e'
              exact TxV.sub h1 h3 (by have := HN.out; omega) h2 (by have := HN.out; omega)))
            have hjm2 : j < m := by
              rcases Nat.lt_or_ge j m with q | q
              · exact q
              · exfalso
                obtain rfl : j = m := by omega
                omega
            have HRUN := Lib.hid (wd_run HOP1.out (m - j - 1) (by have := HN.out; omega) (fun q h1 h2 => HNB.out q h1 (by omega)))
            rw [show j + (m - j - 1) + 1 = m by omega, show m - j - 1 + 1 = m - j by omega] at HRUN
            have hmc : m ≤ c9 := by have := HN.out; omega
            obtain ⟨X, hX⟩ : ∃ X, X = tx ((cs.drop j).take (m - j)).flatten := ⟨_, rfl⟩
            have HX := Lib.hid hX
            rw [← hX] at HJN
            have hbs := HI.out.2.size
            have hwl := HWL.out.1
            have hwl2 : (wdF (cs.take j)).1.length ≤ 700000 := by rw [List.length_take] at hwl; omega
            clear hX hwl
            go_wp2_with (first | (go_at_call 37; refine (HJN.out _ HI.out.2).mono ?_; rintro e w9 ⟨rfl, rfl⟩) | (at_builtin; go_loud (refine wpList_append_own _ rfl _ _ 26 rfl w1.heap.size 9 i9 (.string ⟨#[]⟩) 1 16 Tryz.underlying26 HP9.out.1 HP9.out.2.1 HP9.out.2.2.1 HP9.out.2.2.2 rfl (by decide) _ _ _ rfl (HI.out.1.alloc _) ⟨wr.heap.size, 0, none⟩ 1 1 [.string X] rfl rfl (cell_one_new _ _ _) (by simp [Value.oneCell']) (by unfold maxLen; omega) (by omega) (by simp; omega) ?_)))
            intro v' w4 ho hg4 _
            have HO4 : Hid (w4.ownsRow w1.heap.size 9 1 v' (wdF (cs.take m)).1.length (strs ((wdF (cs.take m)).1.map List.flatten))) := Lib.hid (by rw [HRUN.out]; simp only [List.length_append, List.map_append, List.map_cons, List.map_nil, strs_app, List.length_cons, List.length_nil]; rw [HX.out] at ho; exact ho)
            have HB4 : Hid (Below w1.heap.size w1 w4) := Lib.hid ((HI.out.2.alloc HI.out.2.size _).grown hg4 (by simp; omega) (fun k e => (HI.out.1.lt k e).1))
            clear ho hg4
            go_wp2
            go_roundw
            case rel => exact ⟨m + 1, by go_num, by omega, Lib.hid (fun h => absurd h (by omega)), Lib.hid ⟨by rw [List.take_of_length_le (by have := HN.out; omega)]; have h := HO4.out; rw [List.take_of_length_le (by have := HN.out; omega)] at h; exact h, HB4.out⟩⟩
            case measure => simp [intOf]; omega
    · have HE : Hid (wr.ownsRow w.heap.size 9 1 (.slice xv (wdF (cs.take j)).1.length cv) (wds q).length (strs ((wds q).map List.flatten))) := Lib.hid (by
        have h := World.ownsRow.mono HI.out.1 HBW.out.size
        rw [List.take_of_length_le (by have := HN.out; omega), ← HW.out] at h ⊢
        exact h)
      generalize (wdF (cs.take j)).1.length = N at HE ⊢
      go_wp2
      go_ret
      exact ⟨_, rfl, HE.out, HBW.out.trans (below_le HI.out.2 HBW.out.size)⟩
end Go.Proofs.YtdehjofmangmbaaGreat
/- Walks: Equal, SameAll, beside of both sides. -/
namespace Go.Proofs.YtdehjofmangmbaaGreat
open Go.RowKit Go.Shelf
theorem txmap_inj : ∀ {A B : List Bs}, A.map tx = B.map tx → A = B
  | [], [], _ => rfl
  | [], b :: B, h => by simp at h
  | a :: A, [], h => by simp at h
  | a :: A, b :: B, h => by
    simp only [List.map_cons, List.cons.injEq] at h
    have h1 : a = b := by have := congrArg (·.data.toList) h.1; simpa [tx] using this
    rw [h1, txmap_inj h.2]
theorem wequal (v1 v2 : Value) (A B : List Bs) (w : World) (h1 : TxV w v1 A) (h2 : TxV w v2 B) : Calls Tryz.prog 74 #[v1, v2] w fun e w' => e = .returned (.bool (decide (A = B))) ∧ Below w.heap.size w w' := by
  obtain ⟨x1, c1, rfl, _, k1, f1⟩ := h1.old
  obtain ⟨x2, c2, rfl, _, k2, f2⟩ := h2.old
  by_cases hl : A.length = B.length
  · rcases Nat.eq_zero_or_pos A.length with e | e
    · have hA : A = [] := List.length_eq_zero_iff.1 e
      have hB : B = [] := List.length_eq_zero_iff.1 (by omega)
      subst hA; subst hB
      refine (Tryz.slices_Equal_string_empty x1 x2 c1 0 c2 w (by omega)).mono ?_
      rintro e w' ⟨rfl, rfl⟩
      exact ⟨rfl, Below.refl _ _⟩
    · obtain ⟨g1, o1, rfl, _, q1⟩ := f1 (List.ne_nil_of_length_pos e)
      obtain ⟨g2, o2, rfl, _, q2⟩ := f2 (List.ne_nil_of_length_pos (by omega))
      have cell : ∀ (L : List Bs) (g o : Nat), (∀ i, i < L.length → w.cell? ⟨g, o + i, none⟩ = some (.string (tx (L.getD i [])))) → ∀ j, j < (L.map tx).length → w.cell? ⟨g, o + j, none⟩ = some (.string ((L.map tx).getD j ByteArray.empty)) := fun L g o h j hj => by
        rw [List.length_map] at hj
        rw [h j hj, List.getD_eq_getElem?_getD, List.getD_eq_getElem?_getD, List.getElem?_map, List.getElem?_eq_getElem hj]
        rfl
      refine (Tryz.slices_Equal_string g1 o1 A.length c1 g2 o2 B.length c2 (A.map tx) (B.map tx) w (by simp) (by simp) (by omega) (by omega) (cell A g1 o1 q1) (cell B g2 o2 q2)).mono ?_
      rintro e w' ⟨rfl, q, rfl⟩
      refine ⟨?_, below_drewN (Below.refl _ _) _⟩
      rw [List.take_of_length_le (by simp), List.take_of_length_le (by simp)]
      congr 2
      exact decide_eq_decide.2 ⟨txmap_inj, fun h => by rw [h]⟩
  · refine (Tryz.slices_Equal_string_lens x1 x2 A.length c1 B.length c2 w hl).mono ?_
    rintro e w' ⟨rfl, rfl⟩
    exact ⟨by rw [decide_eq_false (fun e => hl (by rw [e]))], Below.refl _ _⟩
theorem same_upto {A B : List Bs} (hl : A.length = B.length) (h : ∀ i, i < A.length → A.getD i [] = B.getD i []) : A = B := by
  refine List.ext_getElem hl (fun i h1 h2 => ?_)
  have := h i h1
  rw [List.getD_eq_getElem?_getD, List.getD_eq_getElem?_getD, List.getElem?_eq_getElem h1, List.getElem?_eq_getElem h2] at this
  exact this
set_option maxHeartbeats 2000000 in
theorem rsame (v1 v2 : Value) (A B : List Bs) (w : World) (h1 : TxV w v1 A) (h2 : TxV w v2 B) : Calls Tryz.prog 12 #[v1, v2] w fun e w' => e = .returned (.bool (decide (A = B))) ∧ Below w.heap.size w w' := by
  obtain ⟨x1, c1, rfl, _, k1, f1⟩ := h1.old
  obtain ⟨x2, c2, rfl, _, k2, f2⟩ := h2.old
  have HX := Lib.hid f1
  have HY := Lib.hid f2
  obtain ⟨V, hV⟩ : ∃ V, V = decide (A = B) := ⟨_, rfl⟩
  have HV := Lib.hid hV
  rw [← hV]
  by_cases hl : A.length = B.length
  · obtain ⟨n, hn⟩ : ∃ n, n = A.length := ⟨_, rfl⟩
    have HN := Lib.hid hn
    have HNB := Lib.hid (hn.trans hl)
    rw [← hl, ← hn]
    rw [← hn] at k1
    have bn : ((n : Int) != (n : Int)) = false := by simp
    clear f1 f2 h1 h2 hV hl hn k2
    go_enter Tryz.func12, Tryz.ntmps12
    go_wp2
    go_loopw [5] (fun i wr => ∃ k : Nat, k ≤ n ∧ i = .int .i64 (k : Int) ∧ Hid (∀ q, q < k → A.getD q [] = B.getD q []) ∧ Hid (∃ m, wr = w.drewN m)) (fun i _ => n - (intOf i).toNat)
    case atStart => exact ⟨0, by omega, rfl, Lib.hid (fun q h => by omega), Lib.hid ⟨0, rfl⟩⟩
    case round =>
      obtain ⟨k, hk, rfl, HQ, HW⟩ := hrel
      have i1 : (0 : Int) ≤ (k : Int) := by omega
      by_cases hlt : k < n
      · obtain ⟨g, o, rfl, _, hg⟩ := HX.out (List.ne_nil_of_length_pos (by have := HN.out; omega))
        obtain ⟨g2, o2, rfl, _, hg2⟩ := HY.out (List.ne_nil_of_length_pos (by have := HNB.out; omega))
        have ce : wr.cell? ⟨g, o + k, none⟩ = some (.string (tx (A.getD k []))) := by
          obtain ⟨m, rfl⟩ := HW.out
          have := hg k (by have := HN.out; omega)
          simpa [go_sem] using this
        have ce2 : wr.cell? ⟨g2, o2 + k, none⟩ = some (.string (tx (B.getD k []))) := by
          obtain ⟨m, rfl⟩ := HW.out
          have := hg2 k (by have := HNB.out; omega)
          simpa [go_sem] using this
        have i2 : (k : Int) < (n : Int) := by omega
        obtain ⟨X, hX⟩ : ∃ X, X = tx (A.getD k []) := ⟨_, rfl⟩
        obtain ⟨Y, hY⟩ : ∃ X, X = tx (B.getD k []) := ⟨_, rfl⟩
        rw [← hX] at ce
        rw [← hY] at ce2
        by_cases he : A.getD k [] = B.getD k []
        · have hxy : X = Y := by rw [hX, hY, he]
          subst hxy
          have HE := Lib.hid he
          clear hg hg2 hX hY he
          go_wp2
          go_quiet (fail)
          go_wp2
          go_roundw
          case rel =>
            obtain ⟨m, rfl⟩ := HW.out
            exact ⟨k + 1, by omega, by go_num, Lib.hid (fun q h => by
              by_cases e : q = k
              · rw [e]; exact HE.out
              · exact HQ.out q (by omega)), Lib.hid ⟨m + nq, World.drewN_drewN _ _ _⟩⟩
          case measure => simp [intOf]; omega
        · have hxy : (X.toList == Y.toList) = false := by rw [beq_bytes, decide_eq_false (fun e => he (by have := congrArg (·.data.toList) (hX.symm.trans (e.trans hY)); simpa [tx] using this))]
          have HF : Hid (V = false) := Lib.hid (by rw [HV.out]; exact decide_eq_false (fun e => he (by rw [e])))
          clear hg hg2 hX hY he
          go_wp2
          go_quiet (fail)
          go_wp2
          go_ret
          obtain ⟨m, rfl⟩ := HW.out
          exact ⟨ret_bool HF.out.symm, below_drewN (below_drewN (Below.refl _ _) m) _⟩
      · have i2 : ¬ (k : Int) < (n : Int) := by omega
        have HF : Hid (V = true) := Lib.hid (by rw [HV.out]; exact decide_eq_true (same_upto (by rw [← HN.out, ← HNB.out]) (fun i hi => HQ.out i (by have := HN.out; omega))))
        go_wp2
        go_ret
        obtain ⟨m, rfl⟩ := HW.out
        exact ⟨ret_bool HF.out.symm, below_drewN (Below.refl _ _) m⟩
  · have HF : Hid (V = false) := Lib.hid (by rw [hV]; exact decide_eq_false (fun e => hl (by rw [e])))
    have bn : ((A.length : Int) != (B.length : Int)) = true := by rw [bne_iff_ne]; omega
    generalize A.length = n at *
    generalize B.length = n2 at *
    clear f1 f2 h1 h2 hV HX HY HV
    go_enter Tryz.func12, Tryz.ntmps12
    go_wp2
    go_ret
    exact ⟨ret_bool HF.out.symm, Below.refl _ _⟩
end Go.Proofs.YtdehjofmangmbaaGreat
/- Walks: beside of both sides. -/
namespace Go.Proofs.YtdehjofmangmbaaGreat
open Go.RowKit Go.Shelf
theorem TxV.sub2 {W : World} {g off c : Nat} {L : List Bs} (hg : g < W.heap.size) (hget : ∀ i, i < L.length → W.cell? ⟨g, off + i, none⟩ = some (.string (tx (L.getD i [])))) {i m : Nat} (hk : i + m ≤ L.length) (hc : L.length ≤ c) (hL : L.length ≤ 1000000) : TxV W (.slice (some ⟨g, off + i, none⟩) m (c - i)) ((L.drop i).take m) := by
  have hl : ((L.drop i).take m).length = m := by rw [List.length_take, List.length_drop]; omega
  refine ⟨by rw [hl]; omega, .inr ⟨g, off + i, c - i, by rw [hl], by rw [hl]; omega, hg, fun j hj => ?_⟩⟩
  rw [hl] at hj
  rw [Nat.add_assoc, hget (i + j) (by omega)]
  congr 3
  rw [List.getD_eq_getElem?_getD, List.getD_eq_getElem?_getD, List.getElem?_take_of_lt hj, List.getElem?_drop]
theorem at_yes {o w : List Bs} {i : Nat} (h : i + w.length ≤ o.length) : isAt o w i = decide ((o.drop i).take w.length = w) := by
  unfold isAt
  rw [decide_eq_decide]
  exact ⟨fun q => q.2, fun q => ⟨h, q⟩⟩
theorem at_no {o w : List Bs} {i : Nat} (h : ¬ i + w.length ≤ o.length) : isAt o w i = false := decide_eq_false (fun q => h q.1)
theorem filter_yes {p : Nat → Bool} {j : Nat} (h : p j = true) : (List.range (j + 1)).filter p = (List.range j).filter p ++ [j] := by rw [List.range_succ, List.filter_append]; simp [h]
theorem filter_no {p : Nat → Bool} {j : Nat} (h : p j = false) : (List.range (j + 1)).filter p = (List.range j).filter p := by rw [List.range_succ, List.filter_append]; simp [h]
theorem filter_le (p : Nat → Bool) (j : Nat) : ((List.range j).filter p).length ≤ j := by
  have := List.length_filter_le p (List.range j)
  simpa using this
theorem IntO.push {b : Nat} {W w4 : World} {v v' : Value} {l : List Nat} {j : Nat} (_h : IntO b W v l) (ho : w4.ownsRow b 3 1 v' (l.length + 1) (ints l ++ [.int .i64 (j : Int)])) : IntO b w4 v' (l ++ [j]) := by
  unfold IntO
  rw [ints_app, List.length_append]
  exact ho
set_option maxRecDepth 100000 in
set_option maxHeartbeats 400000 in
theorem wbeside (vo vw : Value) (o wd : List Bs) (w : World) (h1 : TxV w vo o) (h2 : TxV w vw wd) : Calls Tryz.prog 50 #[vo, vw] w fun e w' => ∃ v, e = .returned v ∧ IntO w.heap.size w' v (besS o wd) ∧ Below w.heap.size w w' := by
  have HW := Lib.hid h2
  obtain ⟨xw, cw, hvw, _, hm6, _⟩ := h2.old
  obtain ⟨m, hm⟩ : ∃ m, m = wd.length := ⟨_, rfl⟩
  have HM := Lib.hid hm
  rw [← hm] at hvw hm6
  clear h2
  obtain ⟨hn6, ⟨rfl, rfl⟩ | ⟨g, off, c, rfl, hc, hg, hget⟩⟩ := h1
  · have HN : Hid (0 = ([] : List Bs).length) := Lib.hid rfl
    subst hvw
    clear hm hn6
    obtain ⟨i3, hi, hi0, hi1, hi2⟩ := info_parts3
    have HP := Lib.hid (And.intro hi (And.intro hi0 (And.intro hi1 hi2)))
    have HBES : Hid (besS [] wd = (List.range (([] : List Bs).length + 1 - wd.length)).filter (isAt [] wd)) := Lib.hid rfl
    clear hi hi0 hi1 hi2
    go_enter Tryz.func50, Tryz.ntmps50
    go_wp2
    go_loopw [5, 6] (fun v i wr => ∃ j : Nat, i = .int .i64 (j : Int) ∧ j ≤ 0 + 1 - m ∧ Hid (IntO w.heap.size wr v ((List.range j).filter (isAt [] wd))) ∧ Hid (Below w.heap.size w wr)) (fun _ i _ => 0 + 1 - m - (intOf i).toNat)
    case atStart => exact ⟨0, rfl, Nat.zero_le _, Lib.hid (IntO.nil _ _), Lib.hid (Below.refl _ _)⟩
    case round =>
      obtain ⟨j, rfl, hj, HI, HB⟩ := hrel
      obtain ⟨xv, cv, hxv⟩ := HI.out.is
      subst hxv
      have hfl := filter_le (isAt [] wd) j
      have hbs := HB.out.size
      by_cases hlt : j + m ≤ 0
      · have i2 : (j : Int) + (m : Int) ≤ 0 := by omega
        have hj0 : j = 0 := by omega
        have hm0 : m = 0 := by omega
        subst hj0
        subst hm0
        have HQ := Lib.hid (wequal _ _ _ _ wr (show TxV wr (.slice none 0 0) ((([] : List Bs).drop 0).take wd.length) by rw [← HM.out]; exact TxV.nil _) (HW.out.below HB.out))
        have HAT := Lib.hid (at_yes (o := []) (w := wd) (i := 0) (by have := HN.out; have := HM.out; omega))
        obtain ⟨D, hD⟩ : ∃ D, D = decide ((([] : List Bs).drop 0).take wd.length = wd) := ⟨_, rfl⟩
        rw [← hD] at HAT
        have HQ2 : Hid (Calls Tryz.prog 74 #[.slice none 0 0, .slice xw 0 cw] wr fun e w' => e = .returned (.bool D) ∧ Below wr.heap.size wr w') := Lib.hid (by rw [hD, ← HM.out]; have h := HQ.out; rw [← HM.out] at h; exact h)
        clear HQ hD
        go_wp2_with (first | (go_at_call 74; fail))
        go_at_call 74
        refine HQ2.out.mono ?_
        rintro e w3 ⟨rfl, hb3⟩
        have HI3 := Lib.hid (HI.out.below hb3)
        have HB3 := Lib.hid (HB.out.trans (below_le hb3 HB.out.size))
        have hbs3 := HB3.out.size
        clear hb3 HQ2 HI
        generalize hF : ((List.range 0).filter (isAt [] wd)) = F at HI3 hfl ⊢
        have HF := Lib.hid hF
        clear hF
        cases D
        · have HNX : Hid ((List.range (0 + 1)).filter (isAt [] wd) = F) := Lib.hid (by rw [filter_no HAT.out]; exact HF.out)
          go_wp2
          go_roundw
          case rel => exact ⟨1, by go_num, by omega, by rw [HNX.out]; exact HI3, HB3⟩
          case measure => simp [intOf] <;> omega
        · have HNX : Hid ((List.range (0 + 1)).filter (isAt [] wd) = F ++ [0]) := Lib.hid (by rw [filter_yes HAT.out, HF.out])
          go_wp2_with (at_builtin; go_loud (refine wpList_append_own _ rfl _ _ 30 rfl w.heap.size 3 i3 (.int .i64 0) 1 8 Tryz.underlying30 HP.out.1 HP.out.2.1 HP.out.2.2.1 HP.out.2.2.2 rfl (by decide) _ _ _ rfl (HI3.out.alloc _) ⟨w3.heap.size, 0, none⟩ 1 1 [.int .i64 ((0 : Nat) : Int)] rfl rfl (cell_one_new _ _ _) (by simp [Value.oneCell']) (by unfold maxLen; omega) (by omega) (by simp; omega) ?_))
          intro v' w4 ho hg4 _
          have HI4 := Lib.hid (HI3.out.push ho)
          have HB4 : Hid (Below w.heap.size w w4) := Lib.hid ((HB3.out.alloc HB3.out.size _).grown hg4 (by simp; omega) (fun k e => (HI3.out.lt k e).1))
          clear ho hg4
          go_wp2
          go_roundw
          case rel => exact ⟨1, by go_num, by omega, by rw [HNX.out]; exact HI4, HB4⟩
          case measure => simp [intOf] <;> omega
      · have i2 : ¬ (j : Int) + (m : Int) ≤ 0 := by omega
        have HE : Hid (IntO w.heap.size wr (.slice xv ((List.range j).filter (isAt [] wd)).length cv) (besS [] wd)) := Lib.hid (by
          have h := HI.out
          rw [HBES.out, ← HN.out, ← HM.out, show 0 + 1 - m = j by omega]
          exact h)
        generalize ((List.range j).filter (isAt [] wd)).length = F at HE hfl ⊢
        clear HI
        go_wp2
        go_ret
        exact ⟨_, rfl, HE.out, HB.out⟩
  · have HGET := Lib.hid (And.intro hg hget)
    obtain ⟨n, hn⟩ : ∃ n, n = o.length := ⟨_, rfl⟩
    have HN := Lib.hid hn
    have HC := Lib.hid (And.intro hc hn6)
    have hcn : n ≤ c := by omega
    rw [← hn] at hn6 ⊢
    clear hget hg hn hm hc
    subst hvw
    obtain ⟨i3, hi, hi0, hi1, hi2⟩ := info_parts3
    have HP := Lib.hid (And.intro hi (And.intro hi0 (And.intro hi1 hi2)))
    have HBES : Hid (besS o wd = (List.range (o.length + 1 - wd.length)).filter (isAt o wd)) := Lib.hid rfl
    clear hi hi0 hi1 hi2
    go_enter Tryz.func50, Tryz.ntmps50
    go_wp2
    go_loopw [5, 6] (fun v i wr => ∃ j : Nat, i = .int .i64 (j : Int) ∧ j ≤ n + 1 - m ∧ Hid (IntO w.heap.size wr v ((List.range j).filter (isAt o wd))) ∧ Hid (Below w.heap.size w wr)) (fun _ i _ => n + 1 - m - (intOf i).toNat)
    case atStart => exact ⟨0, rfl, Nat.zero_le _, Lib.hid (IntO.nil _ _), Lib.hid (Below.refl _ _)⟩
    case round =>
      obtain ⟨j, rfl, hj, HI, HB⟩ := hrel
      obtain ⟨xv, cv, hxv⟩ := HI.out.is
      subst hxv
      have hfl := filter_le (isAt o wd) j
      have hbs := HB.out.size
      by_cases hlt : j + m ≤ n
      · have i2 : (j : Int) + (m : Int) ≤ (n : Int) := by omega
        by_cases hcj : j = c
        · subst hcj
          obtain rfl : m = 0 := by omega
          have HQ := Lib.hid (wequal _ _ _ _ wr (show TxV wr (.slice (some ⟨g, off, none⟩) 0 0) ((o.drop j).take wd.length) from ⟨by rw [List.length_take, ← HM.out]; simp, .inr ⟨g, off, 0, by rw [List.length_take, ← HM.out]; simp, by rw [List.length_take, ← HM.out]; simp, by have := HGET.out.1; omega, fun i hi => by rw [List.length_take, ← HM.out] at hi; simp at hi⟩⟩) (HW.out.below HB.out))
          have HAT := Lib.hid (at_yes (o := o) (w := wd) (i := j) (by have := HN.out; have := HM.out; omega))
          obtain ⟨D, hD⟩ : ∃ D, D = decide ((o.drop j).take wd.length = wd) := ⟨_, rfl⟩
          rw [← hD] at HAT
          have HQ2 : Hid (Calls Tryz.prog 74 #[.slice (some ⟨g, off, none⟩) 0 0, .slice xw 0 cw] wr fun e w' => e = .returned (.bool D) ∧ Below wr.heap.size wr w') := Lib.hid (by rw [hD, ← HM.out]; have h := HQ.out; rw [← HM.out] at h; exact h)
          clear HQ hD
          go_wp2_with (first | (go_at_call 74; fail))
          go_at_call 74
          refine HQ2.out.mono ?_
          rintro e w3 ⟨rfl, hb3⟩
          have HI3 := Lib.hid (HI.out.below hb3)
          have HB3 := Lib.hid (HB.out.trans (below_le hb3 HB.out.size))
          have hbs3 := HB3.out.size
          clear hb3 HQ2 HI
          generalize hF : ((List.range j).filter (isAt o wd)) = F at HI3 hfl ⊢
          have HF := Lib.hid hF
          clear hF
          cases D
          · have HNX : Hid ((List.range (j + 1)).filter (isAt o wd) = F) := Lib.hid (by rw [filter_no HAT.out]; exact HF.out)
            go_wp2
            go_roundw
            case rel => exact ⟨j + 1, by go_num, by omega, by rw [HNX.out]; exact HI3, HB3⟩
            case measure => simp [intOf] <;> omega
          · have HNX : Hid ((List.range (j + 1)).filter (isAt o wd) = F ++ [j]) := Lib.hid (by rw [filter_yes HAT.out, HF.out])
            go_wp2_with (at_builtin; go_loud (refine wpList_append_own _ rfl _ _ 30 rfl w.heap.size 3 i3 (.int .i64 0) 1 8 Tryz.underlying30 HP.out.1 HP.out.2.1 HP.out.2.2.1 HP.out.2.2.2 rfl (by decide) _ _ _ rfl (HI3.out.alloc _) ⟨w3.heap.size, 0, none⟩ 1 1 [.int .i64 (j : Int)] rfl rfl (cell_one_new _ _ _) (by simp [Value.oneCell']) (by unfold maxLen; omega) (by omega) (by simp; omega) ?_))
            intro v' w4 ho hg4 _
            have HI4 := Lib.hid (HI3.out.push ho)
            have HB4 : Hid (Below w.heap.size w w4) := Lib.hid ((HB3.out.alloc HB3.out.size _).grown hg4 (by simp; omega) (fun k e => (HI3.out.lt k e).1))
            clear ho hg4
            go_wp2
            go_roundw
            case rel => exact ⟨j + 1, by go_num, by omega, by rw [HNX.out]; exact HI4, HB4⟩
            case measure => simp [intOf] <;> omega
        · have hcj2 : ¬ c = j := fun e => hcj e.symm
          have HQ := Lib.hid (wequal _ _ _ _ wr (TxV.sub2 (off := off) (c := c) (i := j) (m := wd.length) (L := o) (by have := HGET.out.1; omega) (fun i hi => (HB.out.cell (p := ⟨g, off + i, none⟩) HGET.out.1).trans (HGET.out.2 i hi)) (by have := HN.out; have := HM.out; omega) HC.out.1 HC.out.2) (HW.out.below HB.out))
          have HAT := Lib.hid (at_yes (o := o) (w := wd) (i := j) (by have := HN.out; have := HM.out; omega))
          obtain ⟨D, hD⟩ : ∃ D, D = decide ((o.drop j).take wd.length = wd) := ⟨_, rfl⟩
          rw [← hD] at HAT
          have HQ2 : Hid (Calls Tryz.prog 74 #[.slice (some ⟨g, off + j, none⟩) m (c - j), .slice xw m cw] wr fun e w' => e = .returned (.bool D) ∧ Below wr.heap.size wr w') := Lib.hid (by rw [hD, ← HM.out]; have h := HQ.out; rw [← HM.out] at h; exact h)
          clear HQ hD
          go_wp2_with (first | (go_at_call 74; fail))
          go_at_call 74
          refine HQ2.out.mono ?_
          rintro e w3 ⟨rfl, hb3⟩
          have HI3 := Lib.hid (HI.out.below hb3)
          have HB3 := Lib.hid (HB.out.trans (below_le hb3 HB.out.size))
          have hbs3 := HB3.out.size
          clear hb3 HQ2 HI
          generalize hF : ((List.range j).filter (isAt o wd)) = F at HI3 hfl ⊢
          have HF := Lib.hid hF
          clear hF
          cases D
          · have HNX : Hid ((List.range (j + 1)).filter (isAt o wd) = F) := Lib.hid (by rw [filter_no HAT.out]; exact HF.out)
            go_wp2
            go_roundw
            case rel => exact ⟨j + 1, by go_num, by omega, by rw [HNX.out]; exact HI3, HB3⟩
            case measure => simp [intOf] <;> omega
          · have HNX : Hid ((List.range (j + 1)).filter (isAt o wd) = F ++ [j]) := Lib.hid (by rw [filter_yes HAT.out, HF.out])
            go_wp2_with (at_builtin; go_loud (refine wpList_append_own _ rfl _ _ 30 rfl w.heap.size 3 i3 (.int .i64 0) 1 8 Tryz.underlying30 HP.out.1 HP.out.2.1 HP.out.2.2.1 HP.out.2.2.2 rfl (by decide) _ _ _ rfl (HI3.out.alloc _) ⟨w3.heap.size, 0, none⟩ 1 1 [.int .i64 (j : Int)] rfl rfl (cell_one_new _ _ _) (by simp [Value.oneCell']) (by unfold maxLen; omega) (by omega) (by simp; omega) ?_))
            intro v' w4 ho hg4 _
            have HI4 := Lib.hid (HI3.out.push ho)
            have HB4 : Hid (Below w.heap.size w w4) := Lib.hid ((HB3.out.alloc HB3.out.size _).grown hg4 (by simp; omega) (fun k e => (HI3.out.lt k e).1))
            clear ho hg4
            go_wp2
            go_roundw
            case rel => exact ⟨j + 1, by go_num, by omega, by rw [HNX.out]; exact HI4, HB4⟩
            case measure => simp [intOf] <;> omega
      · have i2 : ¬ (j : Int) + (m : Int) ≤ (n : Int) := by omega
        have HE : Hid (IntO w.heap.size wr (.slice xv ((List.range j).filter (isAt o wd)).length cv) (besS o wd)) := Lib.hid (by
          have h := HI.out
          rw [HBES.out, ← HN.out, ← HM.out, show n + 1 - m = j by omega]
          exact h)
        generalize ((List.range j).filter (isAt o wd)).length = F at HE hfl ⊢
        clear HI
        go_wp2
        go_ret
        exact ⟨_, rfl, HE.out, HB.out⟩
set_option maxRecDepth 100000 in
set_option maxHeartbeats 1000000 in
theorem rbeside (vo vw : Value) (o wd : List Bs) (i : Nat) (hi : i ≤ o.length) (w : World) (h1 : TxV w vo o) (h2 : TxV w vw wd) : Calls Tryz.prog 56 #[vo, vw, .int .i64 (i : Int)] w fun e w' => e = .returned (.bool (isAt o wd i)) ∧ Below w.heap.size w w' := by
  have HW := Lib.hid h2
  obtain ⟨xw, cw, rfl, _, hm6, _⟩ := h2.old
  obtain ⟨V, hV⟩ : ∃ V, V = isAt o wd i := ⟨_, rfl⟩
  have HVV := Lib.hid hV
  rw [← hV]
  obtain ⟨m, hm⟩ : ∃ m, m = wd.length := ⟨_, rfl⟩
  have HM := Lib.hid hm
  rw [← hm] at hm6 HW ⊢
  clear h2 hm hV
  obtain ⟨hn6, h1⟩ := h1
  by_cases hlt : i + m ≤ o.length
  · have HAT := Lib.hid (at_yes (o := o) (w := wd) (i := i) (by have := HM.out; omega))
    have HV : Hid (V = decide ((o.drop i).take wd.length = wd)) := Lib.hid (by rw [HVV.out, HAT.out])
    have i2 : (m : Int) ≤ (o.length : Int) - (i : Int) := by omega
    rcases h1 with ⟨rfl, rfl⟩ | ⟨g, off, c, rfl, hc, hg, hget⟩
    · have hi0 : i = 0 := by simpa using hi
      have hm0 : m = 0 := by simp at hlt; omega
      subst hi0
      subst hm0
      have HQ := rsame (.slice none 0 0) (.slice xw 0 cw) ((([] : List Bs).drop 0).take wd.length) wd w (by rw [← HM.out]; exact TxV.nil _) HW.out
      rw [← HV.out] at HQ
      have HQ2 := Lib.hid HQ
      clear HQ HAT HVV HV i2 hlt
      go_enter Tryz.func56, Tryz.ntmps56
      go_wp2_with (first | (go_at_call 12; fail))
      go_at_call 12
      refine HQ2.out.mono ?_
      rintro e w3 ⟨rfl, hb3⟩
      have HB3 := Lib.hid hb3
      clear hb3
      go_wp2
      go_ret
      exact ⟨rfl, HB3.out⟩
    · by_cases hcj : i = c
      · subst hcj
        obtain rfl : m = 0 := by omega
        have HQ := rsame (.slice (some ⟨g, off, none⟩) 0 0) (.slice xw 0 cw) ((o.drop i).take wd.length) wd w ⟨by rw [List.length_take, ← HM.out]; simp, .inr ⟨g, off, 0, by rw [List.length_take, ← HM.out]; simp, by rw [List.length_take, ← HM.out]; simp, hg, fun i hi => by rw [List.length_take, ← HM.out] at hi; simp at hi⟩⟩ HW.out
        rw [← HV.out] at HQ
        have HQ2 := Lib.hid HQ
        clear HQ HAT HVV HV hget
        generalize o.length = n at *
        go_enter Tryz.func56, Tryz.ntmps56
        go_wp2_with (first | (go_at_call 12; fail))
        go_at_call 12
        refine HQ2.out.mono ?_
        rintro e w3 ⟨rfl, hb3⟩
        have HB3 := Lib.hid hb3
        clear hb3
        go_wp2
        go_ret
        exact ⟨rfl, HB3.out⟩
      · have hcj2 : ¬ c = i := fun e => hcj e.symm
        have HQ := rsame (.slice (some ⟨g, off + i, none⟩) m (c - i)) (.slice xw m cw) ((o.drop i).take wd.length) wd w (by rw [← HM.out]; exact TxV.sub2 hg hget hlt hc hn6) HW.out
        rw [← HV.out] at HQ
        have HQ2 := Lib.hid HQ
        clear HQ HAT HVV HV hget
        generalize o.length = n at *
        go_enter Tryz.func56, Tryz.ntmps56
        go_wp2_with (first | (go_at_call 12; fail))
        go_at_call 12
        refine HQ2.out.mono ?_
        rintro e w3 ⟨rfl, hb3⟩
        have HB3 := Lib.hid hb3
        clear hb3
        go_wp2
        go_ret
        exact ⟨rfl, HB3.out⟩
  · have HV : Hid (V = false) := Lib.hid (by rw [HVV.out]; exact at_no (by have := HM.out; omega))
    have i2 : ¬ (m : Int) ≤ (o.length : Int) - (i : Int) := by omega
    rcases h1 with ⟨rfl, rfl⟩ | ⟨g, off, c, rfl, hc, hg, hget⟩
    · have hi0 : i = 0 := by simpa using hi
      subst hi0
      have i3 : ¬ (m : Int) ≤ 0 := by simp at hlt; omega
      clear i2
      go_enter Tryz.func56, Tryz.ntmps56
      go_wp2
      go_ret
      exact ⟨ret_bool HV.out.symm, Below.refl _ _⟩
    · clear hget
      generalize o.length = n at *
      go_enter Tryz.func56, Tryz.ntmps56
      go_wp2
      go_ret
      exact ⟨ret_bool HV.out.symm, Below.refl _ _⟩
end Go.Proofs.YtdehjofmangmbaaGreat
