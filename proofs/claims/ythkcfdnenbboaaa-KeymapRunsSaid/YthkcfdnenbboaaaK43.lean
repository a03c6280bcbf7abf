/- The law KeymapRuns: its parts' contracts, laid for the walk; the round's state. -/
import Derived.Test.YthkcfdnenbboaaaK42
namespace Go.Proofs.Ythkcfdnenbboaaa
open Go.RowKit Go.Shelf Go.Maps Go.Sort Go.ChangeMaps
theorem usualC_le : ∀ k, usualC k ≤ k
  | 0 => Nat.le_refl _
  | k + 1 => by
    have := usualC_le k
    unfold usualC
    split <;> omega
theorem usual_acts : ∀ k : Nat, k < 32 → 1 ≤ actOf (nthS usualL (2 * (k : Int) + 2)) ∧ actOf (nthS usualL (2 * (k : Int) + 2)) ≤ 19 := by decide +kernel
theorem good_put {f : Bnd} (h : Good f) (s : ByteArray) (a : Int) (ha : 1 ≤ a ∧ a ≤ 19) : Good (f.put s a) := fun t b hb => by
  unfold Bnd.put at hb
  split at hb
  · cases hb; exact ha
  · exact h t b hb
theorem good_none : Good noBnd := fun s a h => by simp [noBnd] at h
theorem good_usual : ∀ k : Nat, k ≤ 32 → Good (usualF k)
  | 0, _ => good_none
  | k + 1, h => good_put (good_usual k (by omega)) _ _ (usual_acts k (by omega))
theorem alike_none : Alike [] noBnd := ⟨⟨[], ⟨List.Pairwise.nil, fun x => by simp [noBnd, Bnd.has]⟩, rfl⟩, good_none, fun i hi => by simp at hi⟩
/-- What the walk asks of a key, by its value and its name. -/
structure KV (V : Value) (nm : List UInt8) : Prop where
  bind : ∀ (w : World) (b mb m c : Nat) (f : Bnd) (a : Int), MapI w b mb m c f → m ≤ 100000 → (-9223372036854775808 ≤ a ∧ a ≤ 9223372036854775807) → Calls Try.prog 8 #[.pointer (some ⟨b, 0, none⟩), V, .int .i64 a] w (BindEnd w b mb m c f nm a)
  drop : ∀ (w : World) (b mb m c : Nat) (f : Bnd), MapI w b mb m c f → Calls Try.prog 25 #[.pointer (some ⟨b, 0, none⟩), V] w (DropPEnd w b mb m c f nm)
  act : ∀ (w : World) (b mb m c : Nat) (f : Bnd), MapI w b mb m c f → Calls Try.prog 29 #[.pointer (some ⟨b, 0, none⟩), V] w fun e w' => e = .returned (.tuple #[.int .i64 (f.actN nm), .bool (f.hasN nm)]) ∧ Below w.heap.size w w'
  bindR : ∀ (w : World) (x : Option Addr) (n cap : Nat) (L : List Bd) (a : Int), RowB w x n cap L → Sized L → n ≤ 100000 → (-9223372036854775808 ≤ a ∧ a ≤ 9223372036854775807) → Calls Try.prog 28 #[.agg #[.slice x n cap], V, .int .i64 a] w (RefEnd w (refL L nm a) (refE L nm a))
  dropR : ∀ (w : World) (x : Option Addr) (n cap : Nat) (L : List Bd), RowB w x n cap L → Sized L → n ≤ 100000 → Calls Try.prog 26 #[.agg #[.slice x n cap], V] w (DropEnd w (dropL L nm) (dropOk L nm))
  actR : ∀ (w : World) (x : Option Addr) (n cap : Nat) (L : List Bd), RowB w x n cap L → Sized L → n ≤ 100000 → Calls Try.prog 30 #[.agg #[.slice x n cap], V] w fun e w' => e = .returned (.tuple #[.int .i64 (actR L nm), .bool (dropOk L nm)]) ∧ Below w.heap.size w w'
  sz : (mkS nm).size ≤ maxLen
theorem kv_of (k : Ky) (hk : k.In) : KV k.v k.name :=
  ⟨fun _ _ _ _ _ _ a h hm ha => wbind h hm k hk a ha, fun _ _ _ _ _ _ h => wdrop h k hk, fun _ _ _ _ _ _ h => wactM h k hk, fun _ _ _ _ _ a h hz hn ha => wbindR h hz hn k hk a ha, fun _ _ _ _ _ h hz hn => wdropR h hz hn k hk, fun _ _ _ _ _ h hz hn => wactR h hz hn k hk, name_sz k hk⟩
/-- A call's box. -/
def OpAt (w : World) (p : Nat) (o : OpD) : Prop := w.heap[p]? = some (.cells #[.int .u8 o.d, .int .i64 o.k.code, .string o.k.s, .int .i64 o.k.n, .bool o.k.alt, .bool o.k.shift, .bool o.k.ctl, .int .i64 o.a] 50 (0, 0))
theorem OpAt.get {w : World} {p : Nat} {o : OpD} (h : OpAt w p o) : w.cell? ⟨p, 0, none⟩ = some (.int .u8 o.d) ∧ w.cell? ⟨p, 1, none⟩ = some (.int .i64 o.k.code) ∧ w.cell? ⟨p, 2, none⟩ = some (.string o.k.s) ∧ w.cell? ⟨p, 3, none⟩ = some (.int .i64 o.k.n) ∧ w.cell? ⟨p, 4, none⟩ = some (.bool o.k.alt) ∧ w.cell? ⟨p, 5, none⟩ = some (.bool o.k.shift) ∧ w.cell? ⟨p, 6, none⟩ = some (.bool o.k.ctl) ∧ w.cell? ⟨p, 7, none⟩ = some (.int .i64 o.a) ∧ p < w.heap.size := by
  unfold OpAt at h
  refine ⟨?_, ?_, ?_, ?_, ?_, ?_, ?_, ?_, (Array.getElem?_eq_some_iff.1 h).1⟩ <;> simp [World.cell?, h]
/-- The round's state. -/
structure Sy (w : World) (q b mb m c : Nat) (f : Bnd) (x : Option Addr) (n cap : Nat) (L : List Bd) (k : Ky) (p : Nat) (o : OpD) (wx : World) : Prop where
  sx : Sx w q b mb m c f x n cap L k wx
  op : OpAt wx p o
theorem Sx.newMap {w : World} {q b mb m c b' mb' m' c' : Nat} {f f' : Bnd} {x : Option Addr} {n cap : Nat} {L : List Bd} {k : Ky} {w1 : World} (h : Sx w q b mb m c f x n cap L k w1) (hM : MapI w1 b' mb' m' c' f') (hl : w.heap.size < b' ∧ w.heap.size < mb') : Sx w q b' mb' m' c' f' x n cap L k w1 :=
  ⟨hM, h.rb, h.row, h.key, h.bel, h.qlt, hl⟩
section
variable {w : World} {q b mb m c : Nat} {f : Bnd} {x : Option Addr} {n cap : Nat} {L : List Bd} {k : Ky} {p : Nat} {o : OpD} {w1 w2 : World}
theorem Sx.mono (h : Sx w q b mb m c f x n cap L k w1) {m' : Nat} (hm : m ≤ m') : Sx w q b mb m' c f x n cap L k w1 := ⟨h.map.m_le hm, h.rb, h.row, h.key, h.bel, h.qlt, h.low⟩
theorem Sy.kept (h : Sy w q b mb m c f x n cap L k p o w1) (hb : Below w1.heap.size w1 w2) : Sy w q b mb m c f x n cap L k p o w2 := ⟨h.sx.kept hb, (hb.block _ h.op.get.2.2.2.2.2.2.2.2).trans h.op⟩
theorem Sy.pmb (h : Sy w q b mb m c f x n cap L k p o w1) : p ∉ [mb] := fun e => by simp at e; subst e; exact map_no h.sx.map p (by simp) _ _ _ h.op
theorem Sy.turned {m' c' : Nat} {f' : Bnd} (h : Sy w q b mb m c f x n cap L k p o w1) (hM : MapI w2 b mb m' c' f') (hB : But [mb] w1 w2) : Sy w q b mb m' c' f' x n cap L k p o w2 := ⟨h.sx.turned hM hB, hB.heap h.op h.pmb⟩
theorem Sy.forked {b' mb' m' c' m2 c2 : Nat} {f' f2 : Bnd} (h : Sy w q b mb m c f x n cap L k p o w1) (hM' : MapI w1 b' mb' m' c' f') (hM : MapI w2 b mb m2 c2 f2) (hB : But [mb] w1 w2) (hne : b' ≠ mb ∧ mb' ≠ mb) (hlow : w.heap.size < b' ∧ w.heap.size < mb') : Sy w q b' mb' m' c' f' x n cap L k p o w2 :=
  ⟨h.sx.forked hM' hM hB hne hlow, hB.heap h.op h.pmb⟩
theorem Sy.setR {x' : Option Addr} {n' cap' : Nat} {L' : List Bd} (h : Sy w q b mb m c f x n cap L k p o w1) (hr : RowB w1 x' n' cap' L') : Sy w q b mb m c f x' n' cap' L' k p o (w1.setCell ⟨q, 0, none⟩ (.slice x' n' cap')) := by
  have hpq : p ≠ q := fun e => by
    subst e
    have h1 := h.op
    unfold OpAt at h1
    rw [show w1.heap[p]? = _ from h.sx.rb] at h1
    cases h1
  exact ⟨h.sx.setR hr, (set_other hpq).trans h.op⟩
/-- What a region that draws reads. -/
theorem Sy.reads (h : Sy w q b mb m c f x n cap L k p o w1) (w2 : World) (hb : Below w1.heap.size w1 w2) : Below w1.heap.size w1 w2 ∧ w2.cell? ⟨q, 0, none⟩ = some (.slice x n cap) ∧ w2.cell? ⟨p, 1, none⟩ = some (.int .i64 o.k.code) ∧ w2.cell? ⟨p, 2, none⟩ = some (.string o.k.s) ∧ w2.cell? ⟨p, 3, none⟩ = some (.int .i64 o.k.n) ∧ w2.cell? ⟨p, 4, none⟩ = some (.bool o.k.alt) ∧ w2.cell? ⟨p, 5, none⟩ = some (.bool o.k.shift) ∧ w2.cell? ⟨p, 6, none⟩ = some (.bool o.k.ctl) ∧ w2.cell? ⟨p, 7, none⟩ = some (.int .i64 o.a) := by
  obtain ⟨_, c1, c2, c3, c4, c5, c6, c7, _⟩ := (h.kept hb).op.get
  exact ⟨hb, (h.kept hb).sx.rb.cell, c1, c2, c3, c4, c5, c6, c7⟩
theorem Sx.reads (h : Sx w q b mb m c f x n cap L k w1) (w2 : World) (hb : Below w1.heap.size w1 w2) : Below w1.heap.size w1 w2 ∧ w2.cell? ⟨q, 0, none⟩ = some (.slice x n cap) ∧ w2.cell? ⟨w.heap.size, 0, none⟩ = some (.int .i64 k.code) ∧ w2.cell? ⟨w.heap.size, 1, none⟩ = some (.string k.s) ∧ w2.cell? ⟨w.heap.size, 2, none⟩ = some (.int .i64 k.n) ∧ w2.cell? ⟨w.heap.size, 3, none⟩ = some (.bool k.alt) ∧ w2.cell? ⟨w.heap.size, 4, none⟩ = some (.bool k.shift) ∧ w2.cell? ⟨w.heap.size, 5, none⟩ = some (.bool k.ctl) := by
  obtain ⟨c0, c1, c2, c3, c4, c5, _⟩ := (h.kept hb).key.get
  exact ⟨hb, (h.kept hb).rb.cell, c0, c1, c2, c3, c4, c5⟩
end
/-- The same, where the map may have turned. -/
theorem Sy.readsB {w : World} {q b mb m c : Nat} {f : Bnd} {x : Option Addr} {n cap : Nat} {L : List Bd} {k : Ky} {p : Nat} {o : OpD} {w1 : World} (h : Sy w q b mb m c f x n cap L k p o w1) (w2 : World) (hb : But [mb] w1 w2) : But [mb] w1 w2 ∧ w2.cell? ⟨q, 0, none⟩ = some (.slice x n cap) ∧ w2.cell? ⟨p, 1, none⟩ = some (.int .i64 o.k.code) ∧ w2.cell? ⟨p, 2, none⟩ = some (.string o.k.s) ∧ w2.cell? ⟨p, 3, none⟩ = some (.int .i64 o.k.n) ∧ w2.cell? ⟨p, 4, none⟩ = some (.bool o.k.alt) ∧ w2.cell? ⟨p, 5, none⟩ = some (.bool o.k.shift) ∧ w2.cell? ⟨p, 6, none⟩ = some (.bool o.k.ctl) ∧ w2.cell? ⟨p, 7, none⟩ = some (.int .i64 o.a) := by
  have hq : q ∉ [mb] := fun e => by simp at e; subst e; exact map_no h.sx.map q (by simp) _ _ _ h.sx.rb
  have h2 : OpAt w2 p o := hb.heap h.op h.pmb
  have h3 : Boxed w2 q 44 (.slice x n cap) := hb.heap h.sx.rb hq
  obtain ⟨_, c1, c2, c3, c4, c5, c6, c7, _⟩ := h2.get
  exact ⟨hb, h3.cell, c1, c2, c3, c4, c5, c6, c7⟩
theorem keepG {n : Nat} {w w1 w2 : World} (h : Below n w w1) (hw : n = w.heap.size) (g : Below w1.heap.size w1 w2) : Below n w w2 := by
  have := h.size
  exact h.trans (below_le g (by omega))
theorem keepA {n : Nat} {w w1 : World} {o : Obj} (h : Below n w w1) (hw : n = w.heap.size) : Below n w (w1.alloc o) := h.alloc (by have := h.size; omega) o
theorem keepS {n : Nat} {w w1 : World} {g : Nat} {v : Value} (h : Below n w w1) (hg : n ≤ g) : Below n w (w1.setCell ⟨g, 0, none⟩ v) := h.setCell (p := ⟨g, 0, none⟩) hg v
/-- A row in a new box. -/
def Slot (W0 : World) (g : Nat) (x : Option Addr) (n cap : Nat) (L : List Bd) (wx : World) : Prop := Boxed wx g 44 (.slice x n cap) ∧ RowB wx x n cap L ∧ Below W0.heap.size W0 wx
theorem slot_at {W0 Y : World} {g : Nat} {u : Value} {x : Option Addr} {n cap : Nat} {L : List Bd} (h : Boxed Y g 44 u) (hu : ∀ s, u ≠ .string s) (hr : RowB Y x n cap L) (hb : Below W0.heap.size W0 Y) (hg : W0.heap.size ≤ g) : Slot W0 g x n cap L (Y.setCell ⟨g, 0, none⟩ (.slice x n cap)) :=
  ⟨h.set _, hr.setBox h hu _, hb.setCell (p := ⟨g, 0, none⟩) hg _⟩
theorem slot_new {W0 Y : World} {x : Option Addr} {n cap : Nat} {L : List Bd} (hr : RowB Y x n cap L) (hb : Below W0.heap.size W0 Y) : Slot W0 Y.heap.size x n cap L (Y.alloc (.cells #[.slice x n cap] 44)) :=
  ⟨Boxed.new _ _ _, hr.below ((Below.refl _ _).alloc (Nat.le_refl _) _), hb.alloc hb.size _⟩
theorem boxed_kept {w w' : World} {g : Nat} {t : TypeId} {v : Value} (h : Boxed w g t v) (hb : Below w.heap.size w w') : Boxed w' g t v := (hb.block _ h.lt).trans h
theorem RowB.pre {w : World} {x : Option Addr} {n cap : Nat} {L : List Bd} (h : RowB w x n cap L) {M : Nat} (hM : M ≤ n) : RowB w x M cap (L.take M) := by
  obtain ⟨h1, h2, h3⟩ := h
  refine ⟨by simp; omega, by omega, h3.imp id ?_⟩
  rintro ⟨g, rfl, hg, hc⟩
  exact ⟨g, rfl, hg, fun i hi => by rw [bn_take _ _ _ hi]; exact hc i (by omega)⟩
theorem RowB.whole {w : World} {x : Option Addr} {n cap : Nat} {L : List Bd} (h : RowB w x n cap L) : RowB w x n cap (L.take n) := by rw [List.take_of_length_le (by rw [h.1]; exact Nat.le_refl _)]; exact h
theorem wsame0 {w : World} {x y : Option Addr} {c c' : Nat} : Calls Try.prog 32 #[.slice x 0 c, .slice y 0 c'] w fun e w' => e = .returned (.bool true) ∧ Below w.heap.size w w' := by
  go_enter Try.func32, Try.ntmps32
  go_wp2_with fail
  go_loopg [5] 0 (fun gh i wr => ∃ k : Nat, k + gh = 0 ∧ i = .int .i64 k ∧ Hid (Below w.heap.size w wr))
  case atStart => exact ⟨0, by omega, rfl, Lib.hid (Below.refl _ _)⟩
  case round =>
    obtain ⟨k, hk, rfl, HB⟩ := hrel
    have hk0 : k = 0 := by omega
    subst hk0
    go_wp2
    go_ret
    exact ⟨rfl, HB.out⟩
/-- What told gives, against the reference's row. -/
theorem wsameB {w : World} {x1 x : Option Addr} {n c1 c : Nat} {f : Bnd} {ss : List (List UInt8)} {L : List Bd} (hL : L = entL f ss) (h : SeesB w x1 n f ss) (hc : n ≤ c1) (hr : RowB w x n c (L.take n)) (hn : n ≤ ss.length) (hn1 : n ≤ 100000) :
    Calls Try.prog 32 #[.slice x1 n c1, .slice x n c] w fun e w' => e = .returned (.bool true) ∧ Below w.heap.size w w' := by
  by_cases h0 : n = 0
  · subst h0; exact wsame0
  · subst hL
    exact wsame (rowB_told h hn hc (fun q => absurd q h0)) hr hn1
theorem keysY {w : World} {b mb m c : Nat} {f : Bnd} (h : MapI w b mb m c f) (hm : m ≤ 100000) {ss : List (List UInt8)} (hs : NamesOf f ss) {L : List Bd} (hL : L = entL f ss) (a : Int) : Calls Try.prog 34 #[.pointer (some ⟨b, 0, none⟩), .int .i64 a] w fun e w' => ∃ x cap, e = .returned (.slice x (keysB L a).length cap) ∧ SeesS w' x (keysB L a).length (keysB L a) ∧ Below w.heap.size w w' := by
  refine (keys_yes h hm hs a).mono ?_
  rintro e w' ⟨x, m', cap, rfl, _, hs', hb⟩
  rw [keys_alike, ← hL] at hs'
  have := hs'.1
  subst this
  exact ⟨x, cap, rfl, hs', hb⟩
theorem keysZ {w : World} {x : Option Addr} {n cap : Nat} {L : List Bd} (h : RowB w x n cap L) (hn : n ≤ 100000) (a : Int) : Calls Try.prog 35 #[.agg #[.slice x n cap], .int .i64 a] w fun e w' => ∃ x cap, e = .returned (.slice x (keysB L a).length cap) ∧ SeesS w' x (keysB L a).length (keysB L a) ∧ Below w.heap.size w w' := by
  refine (wkeysR h hn a).mono ?_
  rintro e w' ⟨x, m', cap, rfl, _, hs', hb⟩
  have := hs'.1
  subst this
  exact ⟨x, cap, rfl, hs', hb⟩
theorem SeesB.below {w w' : World} {x : Option Addr} {n : Nat} {f : Bnd} {ss : List (List UInt8)} (h : SeesB w x n f ss) (hb : Below w.heap.size w w') : SeesB w' x n f ss := fun hp => by
  obtain ⟨g, e, hg, hc⟩ := h hp
  exact ⟨g, e, by have := hb.size; omega, fun i hi => ⟨(hb.cell (p := ⟨g, i * 2, none⟩) hg).trans (hc i hi).1, (hb.cell (p := ⟨g, i * 2 + 1, none⟩) hg).trans (hc i hi).2⟩⟩
theorem boxed_drew (w : World) (t : TypeId) (v : Value) : Boxed (w.alloc (.cells #[v] t)).drew w.heap.size t v := Boxed.new w t v
end Go.Proofs.Ythkcfdnenbboaaa
