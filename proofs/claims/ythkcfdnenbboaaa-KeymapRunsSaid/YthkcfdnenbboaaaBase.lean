/- Own lemmas that name no program: counting, rows of cells, what a slice of rows reads as, how such readings survive calls that only make memory. -/
import Derived.WalkKit
import Derived.Deep.QuietTactic
import Derived.BigQuiet
import Derived.Lib.Hide
import Derived.WalkSmall
namespace Go.Proofs.Ythkcfdnenbboaaa
open Go.RowKit

theorem bcell {W w1 : World} (hb : Below W.heap.size W w1) : (∀ b o, b < W.heap.size → w1.cell? ⟨b, o, none⟩ = W.cell? ⟨b, o, none⟩) ∧ (∀ b o, b < W.heap.size → w1.frozen? ⟨b, o, none⟩ = W.frozen? ⟨b, o, none⟩) :=
  ⟨fun b o h => hb.cell (p := ⟨b, o, none⟩) h, fun b o h => hb.frozen (p := ⟨b, o, none⟩) h⟩

theorem ret_int {k : IntKind} {a b : Int} (h : a = b) : Ending.returned (.int k a) = .returned (.int k b) := by rw [h]
/-- Struct equality, one field at a time. -/
theorem eqFields_cons {P : Program} {w : World} {d : Nat} {xs ys : Array Value} {f : Field} {fs : List Field} {a b : Value} {r s : Bool} (hn : f.name ≠ "_")
    (ha : (part f.type xs f.offset).run P w = .ok a w) (hb : (part f.type ys f.offset).run P w = .ok b w) (hr : (Op.equalIn d f.type a b).run P w = .ok r w)
    (hs : (Op.eqFields d xs ys fs).run P w = .ok s w) : (Op.eqFields d xs ys (f :: fs)).run P w = .ok (r && s) w := by
  simp only [Op.eqFields, hn, ne_eq, not_false_eq_true, if_true, Sem.run_bind, ha, hb, hr, Result.andThen_ok]
  cases r <;> simp [hs]
theorem eqFields_nil {P : Program} {w : World} {d : Nat} {xs ys : Array Value} : (Op.eqFields d xs ys []).run P w = .ok true w := by simp [Op.eqFields]

theorem beq_bytes (a b : ByteArray) : (a.toList == b.toList) = decide (a = b) := by
  rw [Bool.eq_iff_iff, ByteArray.toList_eq, ByteArray.toList_eq]
  obtain ⟨⟨x⟩⟩ := a
  obtain ⟨⟨y⟩⟩ := b
  simp

/-! ### Counting -/
def cnt (p : Nat → Bool) : Nat → Nat
  | 0 => 0
  | k + 1 => cnt p k + if p k then 1 else 0
theorem cnt_le (p : Nat → Bool) (k : Nat) : cnt p k ≤ k := by
  induction k with
  | zero => simp [cnt]
  | succ k ih => simp only [cnt]; split <;> omega
theorem cnt_congr {p q : Nat → Bool} (k : Nat) (h : ∀ i, i < k → p i = q i) : cnt p k = cnt q k := by
  induction k with
  | zero => rfl
  | succ k ih => simp only [cnt, h k (by omega), ih (fun i hi => h i (by omega))]
theorem cnt_none {p : Nat → Bool} (k : Nat) (h : ∀ i, i < k → p i = false) : cnt p k = 0 := by
  induction k with
  | zero => rfl
  | succ k ih => simp [cnt, h k (by omega), ih (fun i hi => h i (by omega))]
theorem cnt_all {p : Nat → Bool} (m d : Nat) (h : ∀ i, m ≤ i → i < m + d → p i = true) : cnt p (m + d) = cnt p m + d := by
  induction d with
  | zero => rfl
  | succ d ih =>
    rw [show m + (d + 1) = (m + d) + 1 by omega]
    simp only [cnt, h (m + d) (by omega) (by omega), ih (fun i h1 h2 => h i h1 (by omega)), if_true]
    omega
def sumTo (f : Nat → Nat) : Nat → Nat
  | 0 => 0
  | k + 1 => sumTo f k + f k
theorem sumTo_le {f : Nat → Nat} {B : Nat} (k : Nat) (h : ∀ i, f i ≤ B) : sumTo f k ≤ B * k := by
  induction k with
  | zero => simp [sumTo]
  | succ k ih => have := h k; simp only [sumTo, Nat.mul_succ]; omega
theorem sumTo_congr {f g : Nat → Nat} (k : Nat) (h : ∀ i, i < k → f i = g i) : sumTo f k = sumTo g k := by
  induction k with
  | zero => rfl
  | succ k ih => simp only [sumTo, h k (by omega), ih (fun i hi => h i (by omega))]

/-! ### Cells, rows, frames as plain data -/
structure CellD where
  s : ByteArray
  w : Int
  y0 : Bool
  y1 : Bool
  y2 : Bool
  f : Int
  g : Int
  deriving DecidableEq
abbrev CellD.zero : CellD := ⟨ByteArray.empty, 0, false, false, false, 0, 0⟩
/-- Row i; beyond the last: none. A plain def: the walk's simp does not respell it. -/
def nth (A : List (List CellD)) (i : Nat) : List CellD := A.getD i []
theorem nth_out (A : List (List CellD)) (i : Nat) (h : A.length ≤ i) : nth A i = [] := by simp [nth, List.getD, List.getElem?_eq_none h]
def dif (xs ys : List CellD) (k : Nat) : Bool := decide (xs[k]? ≠ ys[k]?)
def apart (xs ys : List CellD) : Nat := cnt (dif xs ys) (max xs.length ys.length)
def differ (A B : List (List CellD)) : Nat := sumTo (fun i => apart (nth A i) (nth B i)) (max A.length B.length)
theorem dif_comm (xs ys : List CellD) (k : Nat) : dif xs ys k = dif ys xs k := by simp [dif, eq_comm]
theorem apart_comm (xs ys : List CellD) : apart xs ys = apart ys xs := by
  unfold apart; rw [Nat.max_comm]; exact cnt_congr _ fun i _ => dif_comm _ _ _
theorem apart_self (xs : List CellD) : apart xs xs = 0 := cnt_none _ fun i _ => by simp [dif]
theorem apart_le (xs ys : List CellD) : apart xs ys ≤ max xs.length ys.length := cnt_le _ _
theorem differ_comm (A B : List (List CellD)) : differ A B = differ B A := by
  unfold differ; rw [Nat.max_comm]; exact sumTo_congr _ fun i _ => apart_comm _ _
theorem differ_self (A : List (List CellD)) : differ A A = 0 := by
  unfold differ
  have := sumTo_le (f := fun i => apart (nth A i) (nth A i)) (B := 0) (max A.length A.length) (fun i => by simp [apart_self])
  omega
/-- The cells of a row are those of the longer one's first places, then what is beyond the shorter one. -/
theorem apart_long (xs ys : List CellD) (h : ys.length ≤ xs.length) : apart xs ys = cnt (dif xs ys) ys.length + (xs.length - ys.length) := by
  unfold apart
  rw [Nat.max_eq_left h]
  have := cnt_all (p := dif xs ys) ys.length (xs.length - ys.length) (fun i h1 h2 => by
    simp only [dif, decide_eq_true_eq, List.getElem?_eq_none h1, List.getElem?_eq_getElem (show i < xs.length by omega)]
    exact Option.some_ne_none _)
  rwa [show ys.length + (xs.length - ys.length) = xs.length by omega] at this
theorem dif_at (xs ys : List CellD) (k : Nat) (hx : k < xs.length) (hy : k < ys.length) : dif xs ys k = decide (xs.getD k CellD.zero ≠ ys.getD k CellD.zero) := by
  simp [dif, List.getD, hx, hy]
theorem cnt_same (xs ys : List CellD) (k : Nat) (hx : k < xs.length) (hy : k < ys.length) (h : xs.getD k CellD.zero = ys.getD k CellD.zero) : cnt (dif xs ys) (k + 1) = cnt (dif xs ys) k := by
  have : dif xs ys k = false := by rw [dif_at xs ys k hx hy]; exact decide_eq_false (fun n => n h)
  simp [cnt, this]
theorem cnt_other (xs ys : List CellD) (k : Nat) (hx : k < xs.length) (hy : k < ys.length) (h : xs.getD k CellD.zero ≠ ys.getD k CellD.zero) : cnt (dif xs ys) (k + 1) = cnt (dif xs ys) k + 1 := by
  have : dif xs ys k = true := by rw [dif_at xs ys k hx hy]; exact decide_eq_true h
  simp [cnt, this]
theorem dif_out (xs ys : List CellD) (k : Nat) (h : ¬ (k < xs.length ∧ k < ys.length)) (h2 : k < xs.length ∨ k < ys.length) : dif xs ys k = true := by
  rcases h2 with h2 | h2
  · have : ¬ k < ys.length := fun h3 => h ⟨h2, h3⟩
    simp [dif, h2, List.getElem?_eq_none (by omega : ys.length ≤ k)]
  · have : ¬ k < xs.length := fun h3 => h ⟨h3, h2⟩
    simp [dif, h2, List.getElem?_eq_none (by omega : xs.length ≤ k)]

theorem cnt_out (xs ys : List CellD) (k : Nat) (h : ¬ (k < xs.length ∧ k < ys.length)) (h2 : k < xs.length ∨ k < ys.length) : cnt (dif xs ys) (k + 1) = cnt (dif xs ys) k + 1 := by
  simp [cnt, dif_out xs ys k h h2]

/-! ### How they lie in memory -/
def CellAt (w : World) (b off : Nat) (c : CellD) : Prop :=
  w.cell? ⟨b, off, none⟩ = some (.string c.s) ∧ w.cell? ⟨b, off + 1, none⟩ = some (.int .i64 c.w) ∧ w.cell? ⟨b, off + 2, none⟩ = some (.bool c.y0) ∧ w.cell? ⟨b, off + 3, none⟩ = some (.bool c.y1) ∧
  w.cell? ⟨b, off + 4, none⟩ = some (.bool c.y2) ∧ w.cell? ⟨b, off + 5, none⟩ = some (.int .i64 c.f) ∧ w.cell? ⟨b, off + 6, none⟩ = some (.int .i64 c.g)
theorem CellAt.mono {w w' : World} {b off : Nat} {c : CellD} (h : CellAt w b off c) (hb : b < w.heap.size) (hw : Below w.heap.size w w') : CellAt w' b off c := by
  obtain ⟨h0, h1, h2, h3, h4, h5, h6⟩ := h
  exact ⟨by rw [hw.cell hb]; exact h0, by rw [hw.cell hb]; exact h1, by rw [hw.cell hb]; exact h2, by rw [hw.cell hb]; exact h3, by rw [hw.cell hb]; exact h4, by rw [hw.cell hb]; exact h5, by rw [hw.cell hb]; exact h6⟩
/-- A slice of cells. -/
def RowV (w : World) (a : Option Addr) (n cap : Nat) (cs : List CellD) : Prop :=
  n = cs.length ∧ n ≤ cap ∧ cap ≤ 9223372036854775807 ∧ (a = none → cap = 0) ∧ (0 < n → ∃ b off, a = some ⟨b, off, none⟩ ∧ b < w.heap.size ∧ ∀ i, i < n → CellAt w b (off + i * 7) (cs.getD i CellD.zero))
theorem RowV.mono {w w' : World} {a : Option Addr} {n cap : Nat} {cs : List CellD} (h : RowV w a n cap cs) (hw : Below w.heap.size w w') : RowV w' a n cap cs := by
  obtain ⟨h1, h2, h3, h4, h5⟩ := h
  refine ⟨h1, h2, h3, h4, fun hp => ?_⟩
  obtain ⟨b, off, ha, hb, hc⟩ := h5 hp
  exact ⟨b, off, ha, by have := hw.size; omega, fun i hi => (hc i hi).mono hb hw⟩
def RowVal (w : World) (v : Value) (cs : List CellD) : Prop := ∃ a n cap, v = .slice a n cap ∧ RowV w a n cap cs
theorem RowVal.mono {w w' : World} {v : Value} {cs : List CellD} (h : RowVal w v cs) (hw : Below w.heap.size w w') : RowVal w' v cs := by
  obtain ⟨a, n, cap, h1, h2⟩ := h; exact ⟨a, n, cap, h1, h2.mono hw⟩
theorem rowVal_nil (w : World) : RowVal w (.slice none 0 0) [] := ⟨none, 0, 0, rfl, rfl, Nat.le_refl _, by omega, fun _ => rfl, fun h => absurd h (by omega)⟩
/-- A slice of rows. -/
def RowsV (w : World) (a : Option Addr) (n cap : Nat) (rs : List (List CellD)) : Prop :=
  n = rs.length ∧ n ≤ cap ∧ cap ≤ 9223372036854775807 ∧ (0 < n → ∃ b off, a = some ⟨b, off, none⟩ ∧ b < w.heap.size ∧ ∀ i, i < n → ∃ v, w.cell? ⟨b, off + i, none⟩ = some v ∧ RowVal w v (nth rs i))
theorem RowsV.mono {w w' : World} {a : Option Addr} {n cap : Nat} {rs : List (List CellD)} (h : RowsV w a n cap rs) (hw : Below w.heap.size w w') : RowsV w' a n cap rs := by
  obtain ⟨h1, h2, h3, h4⟩ := h
  refine ⟨h1, h2, h3, fun hp => ?_⟩
  obtain ⟨b, off, ha, hb, hc⟩ := h4 hp
  refine ⟨b, off, ha, by have := hw.size; omega, fun i hi => ?_⟩
  obtain ⟨v, h1, h2⟩ := hc i hi
  exact ⟨v, by rw [hw.cell hb]; exact h1, h2.mono hw⟩
/-- The rows are few, and short. -/
def Few (rs : List (List CellD)) : Prop := rs.length ≤ 30 ∧ ∀ i, (nth rs i).length ≤ 100
/-- Nothing old has turned but some blocks. -/
structure But (l : List Nat) (w w' : World) : Prop where
  os : w'.os = w.os
  tape : w'.tape = w.tape
  output : w'.output = w.output
  size : w.heap.size ≤ w'.heap.size
  block : ∀ j, j < w.heap.size → j ∉ l → w'.heap[j]? = w.heap[j]?
theorem But.refl (l : List Nat) (w : World) : But l w w := ⟨rfl, rfl, rfl, Nat.le_refl _, fun _ _ _ => rfl⟩
theorem But.trans {l : List Nat} {a b c : World} (h : But l a b) (k : But l b c) : But l a c :=
  ⟨k.os.trans h.os, k.tape.trans h.tape, k.output.trans h.output, Nat.le_trans h.size k.size, fun j hj hl => (k.block j (by have := h.size; omega) hl).trans (h.block j hj hl)⟩
theorem But.of {l : List Nat} {w w' : World} (h : Below w.heap.size w w') : But l w w' := ⟨h.os, h.tape, h.output, h.size, fun j hj _ => h.block j hj⟩
theorem But.set {l : List Nat} {w w' : World} (h : But l w w') (a : Addr) (v : Value) (ha : a.block ∈ l) : But l w (w'.setCell a v) :=
  ⟨h.os, h.tape, h.output, by simpa using h.size, fun j hj hl => (Below.heap_setCell _ _ _ _ (fun e => hl (by rw [e]; exact ha))).trans (h.block j hj hl)⟩
theorem But.alloc {l : List Nat} {w w' : World} (h : But l w w') (o : Obj) : But l w (w'.alloc o) := h.trans (But.of ((Below.refl _ _).alloc (Nat.le_refl _) o))
theorem But.drew {l : List Nat} {w w' : World} (h : But l w w') : But l w w'.drew := h.trans (But.of (Below.refl _ _).drew)
theorem But.below {l : List Nat} {w w' w2 : World} (h : But l w w') (k : Below w'.heap.size w' w2) : But l w w2 := h.trans (But.of k)
theorem But.grown {l : List Nat} {w w' w2 : World} {row : Option Nat} (h : But l w w') (hg : w'.grownBy w2 row) (hr : ∀ j, row = some j → j ∈ l) : But l w w2 :=
  ⟨hg.os.trans h.os, hg.tape.trans h.tape, hg.output.trans h.output, Nat.le_trans h.size hg.size, fun j hj hl => (hg.block j (by have := h.size; omega) (fun e => hl (hr j e.symm))).trans (h.block j hj hl)⟩
theorem But.sub {l l' : List Nat} {w w' : World} (h : But l w w') (hs : ∀ j, j ∈ l → j < w.heap.size → j ∈ l') : But l' w w' := ⟨h.os, h.tape, h.output, h.size, fun j hj hl => h.block j hj (fun q => hl (hs j q hj))⟩
theorem But.toBelow {l : List Nat} {n : Nat} {w w' : World} (h : But l w w') (hn : n ≤ w.heap.size) (hl : ∀ j, j ∈ l → n ≤ j) : Below n w w' :=
  ⟨h.os, h.tape, h.output, h.size, fun j hj => h.block j (by omega) (fun q => by have := hl j q; omega)⟩
theorem But.heap {l : List Nat} {w w' : World} (h : But l w w') {j : Nat} {o : Obj} (hj : w.heap[j]? = some o) (hl : j ∉ l) : w'.heap[j]? = some o := by
  rw [h.block j ((Array.getElem?_eq_some_iff.1 hj).1) hl]; exact hj
end Go.Proofs.Ythkcfdnenbboaaa
