/- Walks: made, Get, Set. -/
import Derived.Test.YtlhfdpeidlbomaaDoorTA
namespace Go.Proofs.YtlhfdpeidlbomaaDoor
open Go.RowKit Go.Shelf
theorem flatS_set (ys : List Sty) (k : Nat) (y : Sty) (hk : k < ys.length) :
    flatS (ys.set k y) = (((((flatS ys).set (k * 5) (.bool y.b)).set (k * 5 + 1) (.bool y.u)).set (k * 5 + 2) (.bool y.i)).set (k * 5 + 3) (.int .i64 y.f)).set (k * 5 + 4) (.int .i64 y.g) := by
  induction ys generalizing k with
  | nil => simp at hk
  | cons z ys ih =>
    have e : ∀ l : List Sty, ∀ z, flatS (z :: l) = styL z ++ flatS l := fun l z => by simp [flatS]
    cases k with
    | zero => rw [List.set_cons_zero, e, e]; simp [styL]
    | succ k =>
      rw [List.set_cons_succ, e, e, ih k (by simpa using hk)]
      have h5 : (styL z).length = 5 := rfl
      have hs : ∀ (l : List Value) (i : Nat) (v : Value), (styL z ++ l).set (5 + i) v = styL z ++ l.set i v := fun l i v => by
        rw [List.set_append_right _ _ (by rw [h5]; omega), h5, Nat.add_sub_cancel_left]
      rw [show (k + 1) * 5 = 5 + k * 5 by omega, Nat.add_assoc, Nat.add_assoc, Nat.add_assoc, Nat.add_assoc, hs, hs, hs, hs, hs]
theorem thCells_set (ys : List Sty) (k : Nat) (y : Sty) (hk : k < ys.length) :
    thCells (ys.set k y) = (((((thCells ys).setIfInBounds (k * 5) (.bool y.b)).setIfInBounds (k * 5 + 1) (.bool y.u)).setIfInBounds (k * 5 + 2) (.bool y.i)).setIfInBounds (k * 5 + 3) (.int .i64 y.f)).setIfInBounds (k * 5 + 4) (.int .i64 y.g) := by
  have hl := flatS_len ys
  unfold thCells
  rw [flatS_set ys k y hk]
  simp only [List.setIfInBounds_toArray]
  have hs : ∀ (l : List Value) (i : Nat) (v : Value), l.length = ys.length * 5 → i < ys.length * 5 → (l ++ [Value.bool true]).set i v = l.set i v ++ [Value.bool true] := fun l i v h1 h2 => List.set_append_left _ _ (by omega)
  rw [hs _ _ _ hl (by omega), hs _ _ _ (by simpa using hl) (by omega), hs _ _ _ (by simpa using hl) (by omega), hs _ _ _ (by simpa using hl) (by omega), hs _ _ _ (by simpa using hl) (by omega)]
theorem ThAt.stored {w : World} {b : Nat} {ys : List Sty} (h : ThAt w b ys) (k : Nat) (hk : k < 10) (y : Sty) :
    ThAt (((((w.setCell ⟨b, k * 5, none⟩ (.bool y.b)).setCell ⟨b, k * 5 + 1, none⟩ (.bool y.u)).setCell ⟨b, k * 5 + 2, none⟩ (.bool y.i)).setCell ⟨b, k * 5 + 3, none⟩ (.int .i64 y.f)).setCell ⟨b, k * 5 + 4, none⟩ (.int .i64 y.g)) b (ys.set k y) :=
  ⟨by rw [thCells_set ys k y (by rw [h.len]; exact hk)]; exact set_block (set_block (set_block (set_block (set_block h.blk _) _) _) _) _, by rw [List.length_set]; exact h.len⟩
theorem but_stored {w0 w : World} {b : Nat} (h : But [b] w0 w) {o0 o1 o2 o3 o4 : Nat} {v0 v1 v2 v3 v4 : Value} :
    But [b] w0 (((((w.setCell ⟨b, o0, none⟩ v0).setCell ⟨b, o1, none⟩ v1).setCell ⟨b, o2, none⟩ v2).setCell ⟨b, o3, none⟩ v3).setCell ⟨b, o4, none⟩ v4) :=
  ((((h.set ⟨b, o0, none⟩ v0 (by simp)).set ⟨b, o1, none⟩ v1 (by simp)).set ⟨b, o2, none⟩ v2 (by simp)).set ⟨b, o3, none⟩ v3 (by simp)).set ⟨b, o4, none⟩ v4 (by simp)
theorem wmade (b : Nat) (ys : List Sty) (w : World) (h : ThAt w b ys) : Calls Tryd.prog 33 #[.pointer (some ⟨b, 0, none⟩)] w fun e w' => e = .returned (.bool true) ∧ w = w' := by
  have hc := h.ok
  clear h
  go_enter Tryd.func33, Tryd.ntmps33
  go_wp2
  go_ret
  exact ⟨rfl, rfl⟩
def getY (ys : List Sty) (s : Bs) : Sty := if plB s = true then nthY ys (plI s).toNat else sty0
def GetEnd (ys : List Sty) (s : Bs) (w : World) (e : Ending) (w' : World) : Prop := e = .returned (.tuple #[(getY ys s).v, .bool (plB s)]) ∧ Below w.heap.size w w'
set_option maxRecDepth 100000 in
set_option maxHeartbeats 2000000 in
theorem wget (b : Nat) (ys : List Sty) (s : Bs) (w : World) (h : ThAt w b ys) : Calls Tryd.prog 21 #[.pointer (some ⟨b, 0, none⟩), .string (tx s)] w (GetEnd ys s w) := by
  have hlt := h.lt
  have H0 : Hid (ThAt (w.alloc (.cells (styCells sty0) 23)) b ys ∧ StyAt (w.alloc (.cells (styCells sty0) 23)) w.heap.size sty0 ∧ Below w.heap.size w (w.alloc (.cells (styCells sty0) 23))) :=
    Lib.hid ⟨h.kept hlt ((Below.refl _ _).alloc (Nat.le_refl _) _), heap_alloc_new _ _, (Below.refl _ _).alloc (Nat.le_refl _) _⟩
  have HP := Lib.hid (fun W => wplace s W)
  have HI := Lib.hid (pl_in s)
  have HG := Lib.hid (show getY ys s = if plB s = true then nthY ys (plI s).toNat else sty0 from rfl)
  have HE : Hid (∀ e w', GetEnd ys s w e w' = (e = .returned (.tuple #[(getY ys s).v, .bool (plB s)]) ∧ Below w.heap.size w w')) := Lib.hid (fun _ _ => rfl)
  obtain ⟨p, hp⟩ : ∃ p, p = plI s := ⟨_, rfl⟩
  obtain ⟨q, hq⟩ : ∃ q, q = plB s := ⟨_, rfl⟩
  rw [← hp] at HP HI HG
  rw [← hq] at HP HG HE
  clear hp hq h
  obtain ⟨k, rfl⟩ := Int.eq_ofNat_of_zero_le HI.out.1
  have hk : k < 10 := by have := HI.out.2; omega
  unfold styCells sty0 at H0
  simp only [] at H0
  go_enter Tryd.func21, Tryd.ntmps21
  go_wp2_with (first | (go_at_call 30; fail))
  generalize w.alloc (.cells #[.bool false, .bool false, .bool false, .int .i64 0, .int .i64 0] 23) = w1 at H0 ⊢
  go_at_call 30
  refine (HP.out _).mono ?_
  rintro e w2 ⟨rfl, hb2⟩
  have H2 : Hid (ThAt w2 b ys ∧ StyAt w2 w.heap.size sty0 ∧ Below w.heap.size w w2) := Lib.hid ⟨H0.out.1.kept H0.out.1.lt hb2, H0.out.2.1.kept H0.out.2.1.get.2.2.2.2.2.2 hb2, H0.out.2.2.trans (below_le hb2 H0.out.2.2.size)⟩
  clear hb2 H0 HP
  obtain ⟨d0, d1, d2, d3, d4, df, _⟩ := H2.out.2.1.get
  have f0 := df 0
  have f1 := df 1
  have f2 := df 2
  have f3 := df 3
  have f4 := df 4
  clear df
  cases q
  · have HR := Lib.hid (H2.out.2.1.stored sty0)
    have HB := Lib.hid (below_stored H2.out.2.2 (b := w.heap.size) (Nat.le_refl _) (v0 := .bool sty0.b) (v1 := .bool sty0.u) (v2 := .bool sty0.i) (v3 := .int .i64 sty0.f) (v4 := .int .i64 sty0.g))
    go_wp2_with (first | (go_at_call 33; (with_reducible refine (wmade b ys _ H2.out.1).mono ?_); rintro e w' ⟨rfl, rfl⟩))
    refine bodyPost_ret (results_cell_tmp rfl _ _ (w.heap.size) 23 (styCells sty0) (0, 0) _ rfl HR.out Tryd.underlying23 rfl (by kernel_rfl)) rfl ?_
    rw [HE.out, HG.out]
    exact ⟨rfl, HB.out⟩
  · obtain ⟨c0, c1, c2, c3, c4⟩ := H2.out.1.get k hk
    have i1 : (0 : Int) ≤ (k : Int) := by omega
    have i2 : (k : Int) < 10 := by omega
    have HR := Lib.hid (H2.out.2.1.stored (nthY ys k))
    have HB := Lib.hid (below_stored H2.out.2.2 (b := w.heap.size) (Nat.le_refl _) (v0 := .bool (nthY ys k).b) (v1 := .bool (nthY ys k).u) (v2 := .bool (nthY ys k).i) (v3 := .int .i64 (nthY ys k).f) (v4 := .int .i64 (nthY ys k).g))
    go_wp2_with (first | (go_at_call 33; (with_reducible refine (wmade b ys _ H2.out.1).mono ?_); rintro e w' ⟨rfl, rfl⟩))
    refine bodyPost_ret (results_cell_tmp rfl _ _ (w.heap.size) 23 (styCells (nthY ys k)) (0, 0) _ rfl HR.out Tryd.underlying23 rfl (by kernel_rfl)) rfl ?_
    rw [HE.out, HG.out]
    exact ⟨rfl, HB.out⟩
end Go.Proofs.YtlhfdpeidlbomaaDoor
