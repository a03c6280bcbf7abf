/- Own texts, merged: S7, RD, RE, RF. -/
import Derived.Test.YtmhfnpabgkkjaaaGreatMP22
import Derived.Test.YtmhfnpabgkkjaaaGreatMP27
/- Walk: bound. -/
namespace Go.Proofs.YtmhfnpabgkkjaaaGreat
open Go.RowKit Go.Shelf
attribute [local go_sem] run_store_float
/-- Binds in memory. -/
def BndV (w : World) (v : Value) (L : List Bnd) : Prop := ∃ x cap, v = .slice x L.length cap ∧ L.length ≤ cap ∧ (x = none → L = []) ∧ ∀ a, x = some a → (L ≠ [] → a.block < w.heap.size) ∧ ∀ i b, L[i]? = some b →
  w.cell? (a.add (i * 5)) = some (.string (tx b.nm)) ∧ w.cell? (a.add (i * 5 + 1)) = some (.int .i64 b.v.t) ∧ w.cell? (a.add (i * 5 + 2)) = some (.float .f64 b.v.n) ∧ w.cell? (a.add (i * 5 + 3)) = some (.string (tx b.v.s)) ∧ w.cell? (a.add (i * 5 + 4)) = some (.bool b.v.b)
theorem BndV.agg {w : World} {v : Value} {L : List Bnd} (h : BndV w v L) : ∃ x n c, v = .slice x n c := by
  obtain ⟨x, cap, rfl, _⟩ := h; exact ⟨_, _, _, rfl⟩
theorem BndV.kept {w w' : World} {v : Value} {L : List Bnd} (h : BndV w v L) (hz : w.heap.size ≤ w'.heap.size) (hk : ∀ b, b < w.heap.size → w'.heap[b]? = w.heap[b]?) : BndV w' v L := by
  obtain ⟨x, cap, hv, h1, h2, h3⟩ := h
  refine ⟨x, cap, hv, h1, h2, fun a ha => ?_⟩
  obtain ⟨g0, g⟩ := h3 a ha
  refine ⟨fun e => Nat.lt_of_lt_of_le (g0 e) hz, fun i b hi => ?_⟩
  replace g0 := g0 (nil_not (List.getElem?_eq_some_iff.1 hi).1)
  obtain ⟨g1, g2, g3, g4, g5⟩ := g i b hi
  have hs : ∀ j, w'.heap[(a.add j).block]? = w.heap[(a.add j).block]? := fun j => by rw [add_block]; exact hk _ g0
  exact ⟨cell_same (hs _) g1, cell_same (hs _) g2, cell_same (hs _) g3, cell_same (hs _) g4, cell_same (hs _) g5⟩
theorem BndV.below {w w' : World} {v : Value} {L : List Bnd} (h : BndV w v L) (hb : Below w.heap.size w w') : BndV w' v L := h.kept hb.size hb.block
theorem BndV.nil (w : World) : BndV w (.slice none 0 0) [] := ⟨none, 0, rfl, Nat.le_refl _, fun _ => rfl, fun a ha => by cases ha⟩
/-- A variable of Val. -/
def VB (w : World) (g : Nat) (v0 v1 v2 v3 : Value) : Prop := w.heap[g]? = some (.cells #[v0, v1, v2, v3] 40 (0, 0))
theorem VB.cells {w : World} {g : Nat} {v0 v1 v2 v3 : Value} (h : VB w g v0 v1 v2 v3) : w.cell? ⟨g, 0, none⟩ = some v0 ∧ w.cell? ⟨g, 1, none⟩ = some v1 ∧ w.cell? ⟨g, 2, none⟩ = some v2 ∧ w.cell? ⟨g, 3, none⟩ = some v3 := by
  unfold VB at h
  exact ⟨by simp [World.cell?, h], by simp [World.cell?, h], by simp [World.cell?, h], by simp [World.cell?, h]⟩
theorem VB.fr {w : World} {g : Nat} {v0 v1 v2 v3 : Value} (h : VB w g v0 v1 v2 v3) (j : Nat) : w.frozen? ⟨g, j, none⟩ = false := by unfold VB at h; simp [World.frozen?, h]
theorem VB.lt {w : World} {g : Nat} {v0 v1 v2 v3 : Value} (h : VB w g v0 v1 v2 v3) : g < w.heap.size := (Array.getElem?_eq_some_iff.1 h).1
theorem VB.below {w w' : World} {g : Nat} {v0 v1 v2 v3 : Value} (h : VB w g v0 v1 v2 v3) (hb : Below w.heap.size w w') : VB w' g v0 v1 v2 v3 := (hb.block g h.lt).trans h
theorem VB.put {w : World} {g : Nat} {u0 u1 u2 u3 v0 v1 v2 v3 : Value} (h : VB w g u0 u1 u2 u3) : VB (putN w g v0 v1 v2 v3) g v0 v1 v2 v3 := by
  unfold putN VB
  rw [set_block (set_block (set_block (set_block h _) _) _) _]
  rfl
/-- What bound gives as a Go value. -/
def bvV (o : Option Vl) : Value := match o with
  | none => .agg #[.int .i64 0, .float .f64 0, .string (tx []), .bool false]
  | some v => .agg #[.int .i64 v.t, .float .f64 v.n, .string (tx v.s), .bool v.b]
theorem firstB_step {s : Bs} {L : List Bnd} {j : Nat} (h : j < L.length) : firstB s (L.drop j) = if L[j].nm = s then some L[j] else firstB s (L.drop (j + 1)) := by
  rw [List.drop_eq_getElem_cons h]
  rfl
theorem firstB_end {s : Bs} {L : List Bnd} {j : Nat} (h : L.length ≤ j) : firstB s (L.drop j) = none := by
  rw [List.drop_eq_nil_of_le h]
  rfl
set_option maxRecDepth 100000 in
set_option maxHeartbeats 8000000 in
theorem wbound (s : Bs) (v : Value) (L : List Bnd) (hL : L.length ≤ 1000000) (w : World) (h : BndV w v L) : Calls Tryz.prog 37 #[.string (tx s), v] w fun e w' => e = .returned (.tuple #[bvV (boundV L s), .bool (boundV L s).isSome]) ∧ Below w.heap.size w w' := by
  obtain ⟨x, cap, rfl, hcap, hx, hc⟩ := h
  have HC := Lib.hid hc
  have HX := Lib.hid hx
  obtain ⟨res, hres⟩ : ∃ y, y = boundV L s := ⟨_, rfl⟩
  rw [← hres]
  have HR : Hid (res = match firstB s (L.drop 0) with | none => none | some b => plainV b.v) := Lib.hid hres
  obtain ⟨N, hN⟩ : ∃ N, N = L.length := ⟨_, rfl⟩
  have HN := Lib.hid hN
  have HZ0 : Hid (VB (w.alloc (.cells #[.int .i64 0, .float .f64 0, .string ⟨#[]⟩, .bool false] 40)) w.heap.size (.int .i64 0) (.float .f64 0) (.string ⟨#[]⟩) (.bool false)) := Lib.hid (heap_alloc_new _ _)
  have HB0 := Lib.hid (bel1 w (.cells #[.int .i64 0, .float .f64 0, .string ⟨#[]⟩, .bool false] 40))
  rw [← hN] at hL hcap ⊢
  clear hc hx hN hres
  go_enter Tryz.func37, Tryz.ntmps37
  go_wp2_with fail
  generalize w.alloc (.cells #[.int .i64 0, .float .f64 0, .string ⟨#[]⟩, .bool false] 40) = W0 at HZ0 HB0 ⊢
  go_loopg [10] N (fun gh i wr => ∃ j : Nat, j + gh = N ∧ i = .int .i64 j ∧ Hid (res = match firstB s (L.drop j) with | none => none | some b => plainV b.v) ∧ Hid (VB wr w.heap.size (.int .i64 0) (.float .f64 0) (.string ⟨#[]⟩) (.bool false)) ∧ Hid (Below w.heap.size w wr))
  case atStart => exact ⟨0, by omega, rfl, HR, HZ0, HB0⟩
  case round =>
    obtain ⟨j, hj, rfl, HR1, HZ, HB⟩ := hrel
    clear HR HZ0 HB0
    have hlt := HZ.out.lt
    by_cases q : j < N
    · have hjl : j < L.length := by have := HN.out; omega
      obtain ⟨a, rfl⟩ : ∃ a, x = some a := by
        cases x with
        | none => have := HX.out rfl; rw [this] at hjl; cases hjl
        | some a => exact ⟨a, rfl⟩
      obtain ⟨e0, e1, e2, e3, e4⟩ := (HC.out a rfl).2 j L[j] (List.getElem?_eq_getElem hjl)
      have hab : a.block < w.heap.size := (HC.out a rfl).1 (nil_not hjl)
      have hs : ∀ k, wr.heap[(a.add k).block]? = w.heap[(a.add k).block]? := fun k => by rw [add_block]; exact HB.out.block _ hab
      have d0 := cell_same (hs _) e0
      have d1 := cell_same (hs _) e1
      have d2 := cell_same (hs _) e2
      have d3 := cell_same (hs _) e3
      have d4 := cell_same (hs _) e4
      rw [add_lit _ _ _ (by decide)] at d1 d2 d3 d4
      clear e0 e1 e2 e3 e4 hs
      have HST := Lib.hid (firstB_step (s := s) hjl)
      obtain ⟨bb, hbb⟩ : ∃ bb, bb = L[j] := ⟨_, rfl⟩
      rw [← hbb] at d0 d1 d2 d3 d4 HST
      clear hbb
      obtain ⟨nm, t, fn, sv, bv⟩ := bb
      simp only at d0 d1 d2 d3 d4
      by_cases q1 : nm = s
      · subst q1
        have HRV : Hid (res = plainV ⟨t, fn, sv, bv⟩) := Lib.hid (by rw [HR1.out, HST.out, if_pos rfl])
        have b0 : ((tx nm).toList != (tx nm).toList) = false := bne_self_eq_false _
        obtain ⟨k0, k1, k2, k3⟩ := HZ.out.cells
        have f0 := HZ.out.fr 0
        have f1 := HZ.out.fr 1
        have f2 := HZ.out.fr 2
        have f3 := HZ.out.fr 3
        have HPUT : Hid (∀ (u0 u1 u2 u3 : Value) (c : Obj), VB ((putN wr w.heap.size u0 u1 u2 u3).alloc c) w.heap.size u0 u1 u2 u3 ∧ Below w.heap.size w ((putN wr w.heap.size u0 u1 u2 u3).alloc c)) := Lib.hid (fun u0 u1 u2 u3 c => by
          have h1 := below_put (v0 := u0) (v1 := u1) (v2 := u2) (v3 := u3) HB.out (Nat.le_refl w.heap.size)
          have h2 := HZ.out.put (v0 := u0) (v1 := u1) (v2 := u2) (v3 := u3)
          exact ⟨h2.below ((Below.refl _ _).alloc (Nat.le_refl _) _), h1.alloc (by have := HB.out.size; rw [putN_size]; exact this) _⟩)
        clear HR1 HST HZ
        by_cases t1 : t = 1
        · subst t1
          go_wp2
          refine bodyPost_ret (results_cell_tmp rfl _ _ w.heap.size 40 _ _ _ rfl (HPUT.out _ _ _ _ _).1 Tryz.underlying40 rfl (by kernel_rfl)) rfl ?_
          rw [HRV.out]
          exact ⟨rfl, (HPUT.out _ _ _ _ _).2⟩
        · have i1 : (t == 1) = false := by simpa using t1
          by_cases t2 : t = 2
          · subst t2
            go_wp2
            refine bodyPost_ret (results_cell_tmp rfl _ _ w.heap.size 40 _ _ _ rfl (HPUT.out _ _ _ _ _).1 Tryz.underlying40 rfl (by kernel_rfl)) rfl ?_
            rw [HRV.out]
            exact ⟨rfl, (HPUT.out _ _ _ _ _).2⟩
          · have i2 : (t == 2) = false := by simpa using t2
            by_cases t3 : t = 3
            · subst t3
              go_wp2
              refine bodyPost_ret (results_cell_tmp rfl _ _ w.heap.size 40 _ _ _ rfl (HPUT.out _ _ _ _ _).1 Tryz.underlying40 rfl (by kernel_rfl)) rfl ?_
              rw [HRV.out]
              exact ⟨rfl, (HPUT.out _ _ _ _ _).2⟩
            · have i3 : (t == 3) = false := by simpa using t3
              have HRN : Hid (res = none) := Lib.hid (by rw [HRV.out]; unfold plainV; rw [if_neg t1, if_neg t2, if_neg t3])
              clear HRV
              go_wp2
              refine bodyPost_ret (results_cell_tmp rfl _ _ w.heap.size 40 _ _ _ rfl (HPUT.out _ _ _ _ _).1 Tryz.underlying40 rfl (by kernel_rfl)) rfl ?_
              rw [HRN.out]
              exact ⟨rfl, (HPUT.out _ _ _ _ _).2⟩
      · have b0 : ((tx nm).toList == (tx s).toList) = false := by rw [tx_toList, tx_toList]; simpa using q1
        have HR2 : Hid (res = match firstB s (L.drop (j + 1)) with | none => none | some b => plainV b.v) := Lib.hid (by rw [HR1.out, HST.out, if_neg q1])
        have HZ2 := Lib.hid (fun c => HZ.out.below ((Below.refl wr.heap.size wr).alloc (Nat.le_refl _) c))
        have HB2 := Lib.hid (fun c => HB.out.alloc HB.out.size c)
        clear q1 HR1 HST HZ HB
        go_wp2
        go_roundg (gk - 1)
        case measure => omega
        case rel => exact ⟨j + 1, by omega, by go_num, HR2, Lib.hid (HZ2.out _), Lib.hid (HB2.out _)⟩
    · have HRN : Hid (res = none) := Lib.hid (by rw [HR1.out, firstB_end (by have := HN.out; omega)])
      obtain ⟨k0, k1, k2, k3⟩ := HZ.out.cells
      have f0 := HZ.out.fr 0
      have f1 := HZ.out.fr 1
      have f2 := HZ.out.fr 2
      have f3 := HZ.out.fr 3
      have HPUT : Hid (∀ (u0 u1 u2 u3 : Value) (_ : Obj), VB ((putN wr w.heap.size u0 u1 u2 u3)) w.heap.size u0 u1 u2 u3 ∧ Below w.heap.size w ((putN wr w.heap.size u0 u1 u2 u3))) := Lib.hid (fun u0 u1 u2 u3 _ => by
        have h1 := below_put (v0 := u0) (v1 := u1) (v2 := u2) (v3 := u3) HB.out (Nat.le_refl w.heap.size)
        have h2 := HZ.out.put (v0 := u0) (v1 := u1) (v2 := u2) (v3 := u3)
        exact ⟨h2, h1⟩)
      clear HZ HR1
      go_wp2
      refine bodyPost_ret (results_cell_tmp rfl _ _ w.heap.size 40 _ _ _ rfl (HPUT.out _ _ _ _ (.cells #[] 0)).1 Tryz.underlying40 rfl (by kernel_rfl)) rfl ?_
      rw [HRN.out]
      exact ⟨rfl, (HPUT.out _ _ _ _ (.cells #[] 0)).2⟩
end Go.Proofs.YtmhfnpabgkkjaaaGreat
/- The reference's calls in plain terms: so many parts in parentheses, and what stands first. -/
namespace Go.Proofs.YtmhfnpabgkkjaaaGreat
open Go.RowKit Go.Shelf
/-- So many parts, the first one behind o, the others behind commas. -/
def argsP (R : List Tok → Option (Tree × List Tok)) : Nat → Bs → List Tok → Option (List Tree × List Tok)
  | 0, _, ts => some ([], ts)
  | k + 1, o, ts => if isTok ts 4 o = true then (match R ts.tail with
      | none => none
      | some (a, r) => match argsP R k [44] r with
        | none => none
        | some (l, r') => some (a :: l, r')) else none
def closeP (op : Bs) (D : List Tree) (x : Option (List Tree × List Tok)) : Option (Tree × List Tok) := match x with
  | none => none
  | some (l, r) => if isTok r 4 [41] = true then some (.mk op 0 [] (D ++ l), r.tail) else none
theorem must_true (s : Bs) (ts : List Tok) : must true s ts = if isTok ts 4 s = true then some ts.tail else none := by
  unfold must
  cases ts with
  | nil => rfl
  | cons t r => rw [adv_true]; rfl
theorem close_no (op : Bs) (D : List Tree) (R : List Tok → Option (Tree × List Tok)) (k : Nat) (o : Bs) (ts : List Tok) (h : isTok ts 4 o = false) : closeP op D (argsP R (k + 1) o ts) = none := by
  simp only [argsP]
  rw [h]
  rfl
theorem close_bad (op : Bs) (D : List Tree) (R : List Tok → Option (Tree × List Tok)) (k : Nat) (o : Bs) (ts : List Tok) (h : R ts.tail = none) : closeP op D (argsP R (k + 1) o ts) = none := by
  simp only [argsP]
  rw [h]
  split <;> rfl
theorem close_step (op : Bs) (D : List Tree) (R : List Tok → Option (Tree × List Tok)) (k : Nat) (o : Bs) (ts : List Tok) (a : Tree) (r : List Tok) (h : isTok ts 4 o = true) (hr : R ts.tail = some (a, r)) :
    closeP op D (argsP R (k + 1) o ts) = closeP op (D ++ [a]) (argsP R k [44] r) := by
  simp only [argsP]
  rw [if_pos h, hr]
  simp only
  cases argsP R k [44] r with
  | none => rfl
  | some x => simp [closeP]
theorem close_end (op : Bs) (D : List Tree) (R : List Tok → Option (Tree × List Tok)) (o : Bs) (ts : List Tok) : closeP op D (argsP R 0 o ts) = if isTok ts 4 [41] = true then some (.mk op 0 [] D, ts.tail) else none := by
  simp [argsP, closeP]
theorem close_one (op : Bs) (R : List Tok → Option (Tree × List Tok)) (ts : List Tok) : closeP op [] (argsP R 1 [40] ts) = under op (inside true R ts) := by
  unfold inside
  rw [must_true]
  cases h : isTok ts 4 [40]
  · rw [close_no _ _ _ _ _ _ h]; rfl
  · rw [if_pos rfl]
    simp only
    cases hr : R ts.tail with
    | none => rw [close_bad _ _ _ _ _ _ hr]; rfl
    | some x =>
      obtain ⟨a, r⟩ := x
      rw [close_step _ _ _ _ _ _ _ _ h hr, close_end]
      simp only [must_true]
      cases isTok r 4 [41] <;> rfl
theorem close_two (R : List Tok → Option (Tree × List Tok)) (ts : List Tok) : closeP whas [] (argsP R 2 [40] ts) = hasP true R ts := by
  unfold hasP
  rw [must_true]
  cases h : isTok ts 4 [40]
  · rw [close_no _ _ _ _ _ _ h]; rfl
  · rw [if_pos rfl]
    simp only
    cases hr : R ts.tail with
    | none => rw [close_bad _ _ _ _ _ _ hr]
    | some x =>
      obtain ⟨a, r⟩ := x
      rw [close_step _ _ _ _ _ _ _ _ h hr]
      simp only [must_true]
      cases h2 : isTok r 4 [44]
      · rw [close_no _ _ _ _ _ _ h2]; rfl
      · rw [if_pos rfl]
        simp only
        cases hr2 : R r.tail with
        | none => rw [close_bad _ _ _ _ _ _ hr2]
        | some x =>
          obtain ⟨b, r2⟩ := x
          rw [close_step _ _ _ _ _ _ _ _ h2 hr2, close_end]
          simp only
          cases isTok r2 4 [41] <;> rfl
/-- What stands first, in the reference's words. -/
theorem atom_nil (n : Nat) : P valV true (n + 1) .atom [] = none := by simp only [P]
theorem atom_num (n : Nat) (t : Tok) (r : List Tok) (h : t.k = 1) : P valV true (n + 1) .atom (t :: r) = some (.mk wnum (valV t.s) [] [], r) := by
  rw [P_atom, if_pos h, adv_true]
theorem atom_text (n : Nat) (t : Tok) (r : List Tok) (h : t.k = 3) : P valV true (n + 1) .atom (t :: r) = some (.mk wtext 0 t.s [], r) := by
  rw [P_atom, if_neg (by omega), if_pos h, adv_true]
theorem atom_in (n : Nat) (t : Tok) (r : List Tok) (h : t.k = 4) : P valV true (n + 1) .atom (t :: r) = inside true (P valV true n .or) (t :: r) := by
  rw [P_atom, if_neg (by omega), if_neg (by omega), if_neg (by omega)]
theorem atom_word (n : Nat) (t : Tok) (r : List Tok) (h : t.k = 2) : P valV true (n + 1) .atom (t :: r) = if t.s = wor ∨ t.s = wand ∨ t.s = wnot then none
    else if t.s = wlen ∨ t.s = wabs then closeP t.s [] (argsP (P valV true n .or) 1 [40] r)
    else if t.s = whas then closeP whas [] (argsP (P valV true n .or) 2 [40] r) else some (.mk wname 0 t.s [], r) := by
  rw [P_atom, if_neg (by omega), if_neg (by omega), if_pos h]
  unfold namedP
  rw [adv_true, close_one, close_two]
  rfl
end Go.Proofs.YtmhfnpabgkkjaaaGreat
/- Trees in a row that grows. -/
namespace Go.Proofs.YtmhfnpabgkkjaaaGreat
open Go.RowKit Go.Shelf
/-- The cells of trees. -/
def CellsT (A : Nat → Prop) (w : World) : List Value → List Tree → Prop
  | cs, [] => cs = []
  | cs, t :: r => ∃ v0 v1 v2 v3 cs', cs = v0 :: v1 :: v2 :: v3 :: cs' ∧ NodeV A w (.agg #[v0, v1, v2, v3]) t ∧ CellsT A w cs' r
theorem CellsT.snoc {A : Nat → Prop} {w : World} {v0 v1 v2 v3 : Value} {t : Tree} (hn : NodeV A w (.agg #[v0, v1, v2, v3]) t) : ∀ (D : List Tree) (cs : List Value), CellsT A w cs D → CellsT A w (cs ++ [v0, v1, v2, v3]) (D ++ [t])
  | [], cs, h => by
    have e : cs = [] := h
    subst e
    exact ⟨v0, v1, v2, v3, [], rfl, hn, rfl⟩
  | u :: r, cs, h => by
    obtain ⟨a0, a1, a2, a3, cs', e, h1, h2⟩ := h
    subst e
    exact ⟨a0, a1, a2, a3, cs' ++ [v0, v1, v2, v3], rfl, h1, CellsT.snoc hn r cs' h2⟩
theorem CellsT.kept {A B : Nat → Prop} {w w' : World} (hz : w.heap.size ≤ w'.heap.size) (hk : ∀ b, A b → b < w.heap.size → B b ∧ w'.heap[b]? = w.heap[b]?) : ∀ (D : List Tree) (cs : List Value), CellsT A w cs D → CellsT B w' cs D
  | [], cs, h => h
  | u :: r, cs, h => by
    obtain ⟨a0, a1, a2, a3, cs', e, h1, h2⟩ := h
    exact ⟨a0, a1, a2, a3, cs', e, NodeV.kept hz hk _ _ h1, CellsT.kept hz hk r cs' h2⟩
theorem CellsT.nodes {A : Nat → Prop} {w : World} {g : Nat} : ∀ (D : List Tree) (cs : List Value) (i : Nat), CellsT A w cs D → (∀ j u, cs[j]? = some u → w.cell? ⟨g, i * 4 + j, none⟩ = some u) → NodesV A w ⟨g, 0, none⟩ i D
  | [], _, _, _, _ => trivial
  | u :: r, cs, i, h, hc => by
    obtain ⟨a0, a1, a2, a3, cs', e, h1, h2⟩ := h
    subst e
    refine ⟨⟨a0, a1, a2, a3, ?_, ?_, ?_, ?_, h1⟩, CellsT.nodes r cs' (i + 1) h2 (fun j u hu => ?_)⟩
    · rw [addr_add]; exact hc 0 _ rfl
    · rw [addr_add]; exact hc 1 _ rfl
    · rw [addr_add]; exact hc 2 _ rfl
    · rw [addr_add]; exact hc 3 _ rfl
    · have := hc (j + 4) u (by simpa using hu)
      rw [show (i + 1) * 4 + j = i * 4 + (j + 4) by omega]
      exact this
/-- A row of trees, in blocks from B on; the trees in other blocks than the row's own. -/
def TreeRow (B : Nat) (w : World) (v : Value) (D : List Tree) : Prop := ∃ cs, w.ownsRow B 26 4 v D.length cs ∧ CellsT (fun b => B ≤ b ∧ v.ownBlock ≠ some b) w cs D
theorem TreeRow.nil (B : Nat) (w : World) : TreeRow B w (.slice none 0 0) [] := ⟨[], World.ownsRow_nil _ _ _ _, rfl⟩
theorem TreeRow.kept {B : Nat} {w w' : World} {v : Value} {D : List Tree} (h : TreeRow B w v D) (hz : w.heap.size ≤ w'.heap.size) (hk : ∀ b, B ≤ b → b < w.heap.size → w'.heap[b]? = w.heap[b]?) : TreeRow B w' v D := by
  obtain ⟨cs, h1, h2⟩ := h
  refine ⟨cs, row_kept h1 (fun j hj => ?_), CellsT.kept hz (fun b hb hl => ⟨hb, hk b hb.1 hl⟩) D cs h2⟩
  have := h1.lt j hj
  exact hk j this.1 this.2
theorem TreeRow.below {B : Nat} {w w' : World} {v : Value} {D : List Tree} (h : TreeRow B w v D) (hb : Below w.heap.size w w') : TreeRow B w' v D := h.kept hb.size (fun b _ hl => hb.block b hl)
theorem TreeRow.node {B : Nat} {w : World} {v : Value} {D : List Tree} (h : TreeRow B w v D) (op : Bs) : NodeV (fun b => B ≤ b) w (.agg #[.string (tx op), .float .f64 0, .string ⟨#[]⟩, v]) (.mk op 0 [] D) := by
  obtain ⟨cs, h1, h2⟩ := h
  have hc := fun g (hg : v.ownBlock = some g) => h1.cells hg
  rcases h1.2 with ⟨rfl, h3⟩ | ⟨g, cap, cur, rfl, hb, hg, hcap, _⟩
  · have : D = [] := List.length_eq_zero_iff.1 h3
    subst this
    exact ⟨none, 0, rfl, Nat.le_refl _, fun _ => rfl, fun a ha => by cases ha⟩
  · refine ⟨some ⟨g, 0, none⟩, cap, rfl, hcap, (fun e => by cases e), fun a ha => ?_⟩
    cases ha
    refine ⟨fun _ => ⟨hb, (Array.getElem?_eq_some_iff.1 hg).1⟩, CellsT.nodes D cs 0 (CellsT.kept (Nat.le_refl _) (fun b hb _ => ⟨hb.1, rfl⟩) D cs h2) (fun j u hu => ?_)⟩
    have := hc g rfl j u hu
    rw [addr_add] at this
    rw [Nat.zero_mul, Nat.zero_add]
    exact this
/-- One tree more. -/
theorem TreeRow.app {B : Nat} {w w' : World} {v v' v0 v1 v2 v3 : Value} {D : List Tree} {t : Tree} {cs : List Value} (h2 : CellsT (fun b => B ≤ b ∧ v.ownBlock ≠ some b) w cs D) (hn : NodeV (fun b => B ≤ b ∧ v.ownBlock ≠ some b) w (.agg #[v0, v1, v2, v3]) t)
    (h3 : w'.ownsRow B 26 4 v' (D.length + 1) (cs ++ [v0, v1, v2, v3])) (hg : w.grownBy w' v.ownBlock) (ho : v'.ownBlock = v.ownBlock ∨ v'.ownBlock = some w.heap.size) : TreeRow B w' v' (D ++ [t]) := by
  refine ⟨cs ++ [v0, v1, v2, v3], by rw [List.length_append]; exact h3, CellsT.kept hg.size (fun b hb hl => ⟨⟨hb.1, fun e => ?_⟩, hg.block b hl (fun e => hb.2 e.symm)⟩) _ _ (CellsT.snoc hn D cs h2)⟩
  rcases ho with ho | ho
  · exact hb.2 (by rw [← ho]; exact e)
  · rw [ho] at e
    cases e
    omega
theorem info_node : ∃ i0, Tryz.prog.info? 26 = some i0 ∧ i0.zero = some (.agg #[.string ⟨#[]⟩, .float .f64 0, .string ⟨#[]⟩, .slice none 0 0]) ∧ i0.size = 4 ∧ i0.bytes = 64 :=
  info_parts (show (Tryz.prog.info? 26).map (fun i => (i.zero, i.size, i.bytes)) = some (some (.agg #[.string ⟨#[]⟩, .float .f64 0, .string ⟨#[]⟩, .slice none 0 0]), 4, 64) by kernel_rfl)
theorem four_cells (w : World) (a b c d : Value) (T : TypeId) : ∀ j x, [a, b, c, d][j]? = some x → (w.alloc (.cells #[a, b, c, d] T)).cell? ((⟨w.heap.size, 0, none⟩ : Addr).add j) = some x := fun j x h => by
  rw [addr_add]
  have hh := heap_alloc_new w (.cells #[a, b, c, d] T)
  match j, h with
  | 0, h => cases h; unfold World.cell?; simp only; rw [hh]; rfl
  | 1, h => cases h; unfold World.cell?; simp only; rw [hh]; rfl
  | 2, h => cases h; unfold World.cell?; simp only; rw [hh]; rfl
  | 3, h => cases h; unfold World.cell?; simp only; rw [hh]; rfl
  | j + 4, h => cases h
theorem four_cells2 (w : World) (o : Obj) (a b c d : Value) (T : TypeId) : ∀ j x, [a, b, c, d][j]? = some x → ((w.alloc o).alloc (.cells #[a, b, c, d] T)).cell? ((⟨w.heap.size + 1, 0, none⟩ : Addr).add j) = some x := by
  have h := four_cells (w.alloc o) a b c d T
  rwa [show (w.alloc o).heap.size = w.heap.size + 1 by simp] at h
/-- A call's answer, handed on from behind other work. -/
theorem rpass {B : Nat} {res : Option (Tree × List Tok)} {w wr w5 : World} {v : Value} {z0 z1 z2 z3 z4 z5 : Value} (hB : B ≤ w.heap.size) (hz : RB wr w.heap.size z0 z1 z2 z3 z4 z5) (hbel : Below w.heap.size w wr)
    (hb : Below wr.heap.size wr w5) (hv : RVal (fun b => wr.heap.size ≤ b) B w5 v res) :
    RB w5 w.heap.size z0 z1 z2 z3 z4 z5 ∧
    ∃ o n s x l c y m d bad, v = .agg #[.string o, .float .f64 n, .string s, .slice x l c, .slice y m d, .bool bad] ∧
      REnd B res w (.returned (.agg #[.string o, .float .f64 n, .string s, .slice x l c, .slice y m d, .bool bad])) (putR w5 w.heap.size (.string o) (.float .f64 n) (.string s) (.slice x l c) (.slice y m d) (.bool bad)) := by
  have hlt := hz.lt
  refine ⟨hz.below hb, ?_⟩
  obtain ⟨o, n, s, x, l, c, y, m, d, bad, t, rfl, hn, hc⟩ := hv
  refine ⟨o, n, s, x, l, c, y, m, d, bad, rfl, below_putR (hbel.trans (below_le hb (by omega))) (Nat.le_refl _), _, rfl, o, n, s, x, l, c, y, m, d, bad, t, rfl, ?_, ?_⟩
  · exact (hn.putR (fun hh => by have h3 : wr.heap.size ≤ w.heap.size := hh; omega)).sub (fun b h1 _ => by have h3 : wr.heap.size ≤ b := h1; show w.heap.size ≤ b; omega)
  · rcases hc with h1 | ⟨h1, ts, h2, h3, h4⟩
    · exact .inl h1
    · exact .inr ⟨h1, ts, h2, h3.putR hB, h4⟩
end Go.Proofs.YtmhfnpabgkkjaaaGreat
/- Walk: the reference's call. -/
namespace Go.Proofs.YtmhfnpabgkkjaaaGreat
open Go.RowKit Go.Shelf
attribute [local go_sem] run_store_float
/-- What the loop of call holds: the node that grows, its row of parts, the result's variable. -/
structure CLI (w : World) (op : Bs) (D : List Tree) (v : Value) (W : World) : Prop where
  node : NB W (w.heap.size + 1) (.agg #[.string (tx op), .float .f64 0, .string ⟨#[]⟩, v])
  row : TreeRow (w.heap.size + 2) W v D
  res : RB W w.heap.size (.string ⟨#[]⟩) (.float .f64 0) (.string ⟨#[]⟩) (.slice none 0 0) (.slice none 0 0) (.bool false)
  bel : Below w.heap.size w W
theorem CLI.below {w : World} {op : Bs} {D : List Tree} {v : Value} {W W' : World} (h : CLI w op D v W) (hb : Below W.heap.size W W') : CLI w op D v W' :=
  ⟨h.node.below hb, h.row.below hb, h.res.below hb, h.bel.trans (below_le hb h.bel.size)⟩
theorem CLI.start (w : World) (op : Bs) : CLI w op [] (.slice none 0 0) ((w.alloc (.cells #[.string ⟨#[]⟩, .float .f64 0, .string ⟨#[]⟩, .slice none 0 0, .slice none 0 0, .bool false] 59)).alloc (.cells #[.string (tx op), .float .f64 0, .string ⟨#[]⟩, .slice none 0 0] 26)) := by
  have hr : RB (w.alloc (.cells #[.string ⟨#[]⟩, .float .f64 0, .string ⟨#[]⟩, .slice none 0 0, .slice none 0 0, .bool false] 59)) w.heap.size _ _ _ _ _ _ := heap_alloc_new _ _
  refine ⟨⟨_, _, _, _, rfl, ?_⟩, TreeRow.nil _ _, hr.below ((Below.refl _ _).alloc (Nat.le_refl _) _), (bel1 w _).alloc (by simp) _⟩
  have := heap_alloc_new (w.alloc (.cells #[.string ⟨#[]⟩, .float .f64 0, .string ⟨#[]⟩, .slice none 0 0, .slice none 0 0, .bool false] 59)) (.cells #[.string (tx op), .float .f64 0, .string ⟨#[]⟩, .slice none 0 0] 26)
  simpa using this
theorem RB.drew {w : World} {g : Nat} {v0 v1 v2 v3 v4 v5 : Value} (h : RB w g v0 v1 v2 v3 v4 v5) : RB w.drew g v0 v1 v2 v3 v4 v5 := by
  unfold RB at h ⊢
  exact h
/-- One part more: appended, and stored in the node. -/
theorem cli_app {w W8 w' : World} {op : Bs} {D : List Tree} {v v' v0 v1 v2 v3 : Value} {t : Tree} {cs : List Value} (hI : CLI w op D v W8) (hcs : CellsT (fun b => w.heap.size + 2 ≤ b ∧ v.ownBlock ≠ some b) W8 cs D)
    (hn : NodeV (fun b => w.heap.size + 2 ≤ b ∧ v.ownBlock ≠ some b) W8 (.agg #[v0, v1, v2, v3]) t) (hrow : W8.ownsRow (w.heap.size + 2) 26 4 v D.length cs)
    (hown : w'.ownsRow (w.heap.size + 2) 26 4 v' (D.length + 1) (cs ++ [v0, v1, v2, v3])) (hg : W8.grownBy w' v.ownBlock) (ho : v'.ownBlock = v.ownBlock ∨ v'.ownBlock = some W8.heap.size) :
    CLI w op (D ++ [t]) v' (w'.setCell ⟨w.heap.size + 1, 3, none⟩ v') ∧ w'.cell? ⟨w.heap.size + 1, 3, none⟩ = some v ∧ w'.frozen? ⟨w.heap.size + 1, 3, none⟩ = false ∧
    (∀ b, b < W8.heap.size → v.ownBlock ≠ some b → b ≠ w.heap.size + 1 → w'.heap[b]? = W8.heap[b]? ∧ (w'.setCell ⟨w.heap.size + 1, 3, none⟩ v').heap[b]? = W8.heap[b]?) := by
  have hlo : ∀ b, b < w.heap.size + 2 → v.ownBlock ≠ some b := fun b hb e => by have := hrow.lt b e; omega
  have hk : ∀ b, b < W8.heap.size → v.ownBlock ≠ some b → b ≠ w.heap.size + 1 → w'.heap[b]? = W8.heap[b]? ∧ (w'.setCell ⟨w.heap.size + 1, 3, none⟩ v').heap[b]? = W8.heap[b]? := fun b h1 h2 h3 => by
    have h4 := hg.block b h1 (fun e => h2 e.symm)
    exact ⟨h4, (set_other h3).trans h4⟩
  have hgn := hI.node.lt
  have hnb : w'.heap[w.heap.size + 1]? = some (.cells #[.string (tx op), .float .f64 0, .string ⟨#[]⟩, v] 26 (0, 0)) := (hg.block _ hgn (fun e => hlo _ (by omega) e.symm)).trans hI.node.heap
  have hrl := hI.res.lt
  refine ⟨⟨⟨_, _, _, _, rfl, ?_⟩, ?_, ?_, ?_⟩, by simp [World.cell?, hnb], by simp [World.frozen?, hnb], hk⟩
  · rw [set_block hnb]; rfl
  · exact (TreeRow.app hcs hn hown hg ho).kept (by simp) (fun b hb _ => set_other (by omega))
  · exact (hk _ hrl (hlo _ (by omega)) (by omega)).2.trans hI.res
  · have h1 := hI.bel.size
    exact (hI.bel.grown hg h1 (fun k e => by have := hrow.lt k e; omega)).setCell (show w.heap.size ≤ w.heap.size + 1 by omega) _
theorem TokV.drew {B : Nat} {w : World} {v : Value} {L : List Tok} (h : TokV B w v L) : TokV B w.drew v L := TokV.kept (w := w) (w' := w.drew) h (fun _ _ => rfl)
theorem cli_end {B : Nat} {w wr : World} {op : Bs} {D : List Tree} {x3 : Option Addr} {n3 c3 : Nat} {y2 : Option Addr} {m2 d2 : Nat} {r : List Tok} (hB : B ≤ w.heap.size) (hI : CLI w op D (.slice x3 n3 c3) wr) (ht : TokV B wr (.slice y2 m2 d2) r) (hK : KOk r) :
    RB (putR wr w.heap.size (.string (tx op)) (.float .f64 0) (.string ⟨#[]⟩) (.slice x3 n3 c3) (.slice y2 m2 d2) (.bool false)).drew w.heap.size (.string (tx op)) (.float .f64 0) (.string ⟨#[]⟩) (.slice x3 n3 c3) (.slice y2 m2 d2) (.bool false) ∧
    REnd B (some (.mk op 0 [] D, r)) w (.returned (.agg #[.string (tx op), .float .f64 0, .string ⟨#[]⟩, .slice x3 n3 c3, .slice y2 m2 d2, .bool false])) (putR wr w.heap.size (.string (tx op)) (.float .f64 0) (.string ⟨#[]⟩) (.slice x3 n3 c3) (.slice y2 m2 d2) (.bool false)).drew := by
  refine ⟨hI.res.put.drew, (below_putR hI.bel (Nat.le_refl _)).drew, _, rfl, _, _, _, _, _, _, _, _, _, _, _, rfl, ?_, .inr ⟨rfl, r, rfl, (ht.putR hB).drew, hK⟩⟩
  have h1 : NodeV (fun b => w.heap.size + 2 ≤ b) (putR wr w.heap.size (.string (tx op)) (.float .f64 0) (.string ⟨#[]⟩) (.slice x3 n3 c3) (.slice y2 m2 d2) (.bool false)) (.agg #[.string (tx op), .float .f64 0, .string ⟨#[]⟩, .slice x3 n3 c3]) (.mk op 0 [] D) := (hI.row.node op).putR (fun hh => by have h3 : w.heap.size + 2 ≤ w.heap.size := hh; omega)
  exact (h1.sub (fun b h1 _ => by have h3 : w.heap.size + 2 ≤ b := h1; show w.heap.size ≤ b; omega)).drew
set_option maxRecDepth 100000 in
set_option maxHeartbeats 8000000 in
theorem rcall (B n : Nat) (H : RC B 22 0 .or 11 n) (op : Bs) (many : Nat) (hm : many ≤ 2) (ts : List Tok) (v : Value) (w : World) (hn : 12 * ts.length ≤ n) (hl : ts.length ≤ 1000000) (hB : B ≤ w.heap.size) (hK : KOk ts) (hv : TokV B w v ts) :
    Calls Tryz.prog 96 #[.string (tx op), v, .int .i64 many] w (REnd B (closeP op [] (argsP (P valV true n .or) many [40] ts)) w) := by
  have HB := Lib.hid hB
  have HH := Lib.hid H
  obtain ⟨res, hres⟩ : ∃ y, y = closeP op [] (argsP (P valV true n .or) many [40] ts) := ⟨_, rfl⟩
  rw [← hres]
  have HR0 := Lib.hid hres
  have HL0 : Hid (12 * ts.length ≤ n ∧ ts.length ≤ 1000000 ∧ KOk ts) := Lib.hid ⟨hn, hl, hK⟩
  have HI0 := Lib.hid (CLI.start w op)
  have HT0 := Lib.hid (hv.below (((Below.refl w.heap.size w).alloc (Nat.le_refl _) (.cells #[.string ⟨#[]⟩, .float .f64 0, .string ⟨#[]⟩, .slice none 0 0, .slice none 0 0, .bool false] 59)).alloc (by simp) (.cells #[.string (tx op), .float .f64 0, .string ⟨#[]⟩, .slice none 0 0] 26)) hB)
  obtain ⟨x, tn, tc, rfl⟩ := hv.agg
  clear hn hl hB hK hv H hres
  go_enter Tryz.func96, Tryz.ntmps96
  go_wp2_with fail
  generalize ((w.alloc (.cells #[.string ⟨#[]⟩, .float .f64 0, .string ⟨#[]⟩, .slice none 0 0, .slice none 0 0, .bool false] 59)).alloc (.cells #[.string (tx op), .float .f64 0, .string ⟨#[]⟩, .slice none 0 0] 26)) = W0 at HI0 HT0 ⊢
  go_loopg [1, 8, 9] many (fun gh l o i wr => ∃ (D : List Tree) (j : Nat) (ts1 : List Tok) (ob : Bs) (vr : Value), j + gh = many ∧ i = .int .i64 j ∧ o = .string (tx ob) ∧ Hid (TokV B wr l ts1) ∧ Hid (12 * ts1.length ≤ n ∧ ts1.length ≤ 1000000 ∧ KOk ts1 ∧ D.length = j) ∧ Hid (res = closeP op D (argsP (P valV true n .or) gh ob ts1)) ∧ Hid (CLI w op D vr wr))
  case atStart => exact ⟨[], 0, ts, [40], _, by omega, rfl, rfl, HT0, Lib.hid ⟨HL0.out.1, HL0.out.2.1, HL0.out.2.2, rfl⟩, HR0, HI0⟩
  case round =>
    obtain ⟨D, j, ts1, ob, vr, hj, rfl, rfl, HT, HL, HR, HI⟩ := hrel
    obtain ⟨x1, m1, d1, rfl⟩ := HT.out.agg
    have HIS := Lib.hid (fun W (str : Bs) (h : TokV B W (.slice x1 m1 d1) ts1) => ris B _ ts1 4 (.inr rfl) str HL.out.2.2.1 HL.out.2.1 W h)
    have HLT := HI.out.res.lt
    clear HR0 HL0 HI0 HT0
    by_cases q : j < many
    · obtain ⟨k, rfl⟩ : ∃ k, gk = k + 1 := ⟨gk - 1, by omega⟩
      have qi : (j : Int) < (many : Int) := by omega
      cases hq : isTok ts1 4 ob
      · have HRN : Hid (res = none) := Lib.hid (by rw [HR.out]; exact close_no _ _ _ _ _ _ hq)
        have HIS2 := Lib.hid (HIS.out _ ob HT.out)
        rw [hq] at HIS2
        clear hq HR HIS
        go_wp2_with (first | (go_at_call 62; refine (HIS2.out).mono ?_; rintro e w5 ⟨rfl, rfl⟩) | (go_at_call 94; fail))
        go_at_call 94
        refine (rbad B _).mono ?_
        rintro e w5 ⟨hb5, v5, rfl, hv5⟩
        obtain ⟨hz, o, nn, s, x2, l, c, y, m, d, bad, rfl, hend⟩ := rpass HB.out HI.out.res HI.out.bel hb5 hv5
        have HE := Lib.hid hend
        obtain ⟨k0, k1, k2, k3, k4, k5⟩ := hz.cells
        have HZ := Lib.hid hz
        have f0 := hz.fr 0
        have f1 := hz.fr 1
        have f2 := hz.fr 2
        have f3 := hz.fr 3
        have f4 := hz.fr 4
        have f5 := hz.fr 5
        clear hz hend hb5 hv5 HT HL HI
        go_wp2
        rw [HRN.out]
        exact bodyPost_ret (read_node _ rfl _ _ w.heap.size _ _ _ _ _ _ rfl HZ.out.put) rfl HE.out
      · obtain ⟨t, r, rfl⟩ : ∃ t r, ts1 = t :: r := by
          cases ts1 with
          | nil => cases hq
          | cons t r => exact ⟨t, r, rfl⟩
        have HBR := Lib.hid (show B ≤ wr.heap.size by have := HB.out; omega)
        obtain ⟨y2, m2, d2, hsl, _⟩ := tok_slice HT.out
        have HSL : Hid (TokV B wr (.slice y2 m2 d2) r) := Lib.hid (by
          obtain ⟨y3, m3, d3, h1, h2⟩ := tok_slice HT.out
          have h3 := (hsl wr).symm.trans (h1 wr)
          cases h3
          exact h2)
        have HIS2 := Lib.hid (HIS.out _ ob HT.out)
        rw [hq] at HIS2
        have HLR : Hid (12 * r.length + 11 ≤ n ∧ r.length ≤ 1000000 ∧ KOk r ∧ D.length = j) := Lib.hid (by
          have h := HL.out
          simp only [List.length_cons] at h
          exact ⟨by omega, by omega, h.2.2.1.tail, h.2.2.2⟩)
        have HC := Lib.hid (HH.out r (.slice y2 m2 d2) wr HLR.out.1 HLR.out.2.1 HBR.out HLR.out.2.2.1 HSL.out)
        obtain ⟨R2, hR2⟩ : ∃ y, y = P valV true n .or r := ⟨_, rfl⟩
        rw [← hR2] at HC
        have HST : Hid (∀ a r2, R2 = some (a, r2) → res = closeP op (D ++ [a]) (argsP (P valV true n .or) k [44] r2)) := Lib.hid (fun a r2 h => by rw [HR.out]; exact close_step _ _ _ _ _ _ _ _ hq (by rw [← h, hR2]; rfl))
        have HBD : Hid (R2 = none → res = none) := Lib.hid (fun h => by rw [HR.out]; exact close_bad _ _ _ _ _ _ (by rw [← h, hR2]; rfl))
        have HLN : Hid (∀ a r2, R2 = some (a, r2) → r2.length ≤ r.length) := Lib.hid (fun a r2 h => (P_len valV true n .or r a r2 (by rw [← hR2]; exact h)).1)
        clear hq HR HIS hR2 HL HT HSL HH
        go_wp2_with (first | (go_at_call 62; refine (HIS2.out).mono ?_; rintro e w5 ⟨rfl, rfl⟩) | (go_at_call 22; fail))
        go_at_call 22
        refine (HC.out).mono ?_
        rintro e w5 ⟨hb5, v5, rfl, o5, n5, s5, x5, l5, c5, y5, m5, d5, bad5, t5, rfl, hnode5, hcase5⟩
        have hal5 : Below w5.heap.size w5 (w5.alloc (.cells #[.string o5, .float .f64 n5, .string s5, .slice x5 l5 c5, .slice y5 m5 d5, .bool bad5] 59)) := (Below.refl _ _).alloc (Nat.le_refl _) _
        have HI7 := Lib.hid ((HI.out.below hb5).below hal5)
        have HG7 : Hid (RB (w5.alloc (.cells #[.string o5, .float .f64 n5, .string s5, .slice x5 l5 c5, .slice y5 m5 d5, .bool bad5] 59)) w5.heap.size _ _ _ _ _ _) := Lib.hid (heap_alloc_new _ _)
        have hsz5 := hb5.size
        have HN7 := Lib.hid ((hnode5.sub (B := fun b => w.heap.size + 2 ≤ b ∧ vr.ownBlock ≠ some b) (fun b h1 _ => by
          have h3 : wr.heap.size ≤ b := h1
          have h4 := HI.out.node.lt
          obtain ⟨cs, h5, _⟩ := HI.out.row
          refine ⟨by omega, fun e => ?_⟩
          have := h5.lt b e
          omega)).below hal5)
        have hlt5 : w.heap.size + 1 < w5.heap.size := by have := HI.out.node.lt; omega
        have HOB : Hid (∀ b, vr.ownBlock = some b → b < w5.heap.size) := Lib.hid (fun b e => by
          obtain ⟨cs, h5, _⟩ := HI.out.row
          have := h5.lt b e
          omega)
        cases bad5
        · obtain ⟨ts2, h2, h3, h4⟩ : ∃ ts2, R2 = some (t5, ts2) ∧ TokV B w5 (.slice y5 m5 d5) ts2 ∧ KOk ts2 := by
            rcases hcase5 with ⟨h, _⟩ | ⟨_, h⟩
            · cases h
            · exact h
          have HT7 := Lib.hid (h3.below hal5 (by have := HBR.out; omega))
          have HRS := Lib.hid (HST.out t5 ts2 h2)
          have HL7 : Hid (12 * ts2.length ≤ n ∧ ts2.length ≤ 1000000 ∧ KOk ts2 ∧ (D ++ [t5]).length = j + 1) := Lib.hid (by
            have h := HLN.out t5 ts2 h2
            have h' := HLR.out
            exact ⟨by omega, by omega, h4, by rw [List.length_append, h'.2.2.2]; rfl⟩)
          have HDL := Lib.hid HLR.out.2.2.2
          clear h2 h3 h4 hcase5 hnode5 hal5 hb5 HI HST HBD HLN HC HLR HIS2
          go_wp2_with fail
          generalize (w5.alloc (.cells #[.string o5, .float .f64 n5, .string s5, .slice x5 l5 c5, .slice y5 m5 d5, .bool false] 59)) = W7 at HI7 HG7 HN7 HT7 ⊢
          generalize w5.heap.size = g7 at HG7 hlt5 HOB ⊢
          obtain ⟨cs, hrow, hcs⟩ := HI7.out.row
          obtain ⟨x3, c3, rfl⟩ := ownsRow_is hrow
          have HROW := Lib.hid hrow
          have HCS := Lib.hid hcs
          obtain ⟨q0, q1, q2, q3, qf⟩ := HI7.out.node.cells
          have f3 := qf 3
          have hg7 := HG7.out.lt
          have hgn := HI7.out.node.lt
          clear hrow hcs q0 q1 q2 qf
          have HSS : Hid (∀ W : World, W.heap[g7]? = W7.heap[g7]? → W.cell? ⟨g7, 0, none⟩ = some (.string o5) ∧ W.cell? ⟨g7, 1, none⟩ = some (.float .f64 n5) ∧ W.cell? ⟨g7, 2, none⟩ = some (.string s5) ∧ W.cell? ⟨g7, 3, none⟩ = some (.slice x5 l5 c5) ∧ W.cell? ⟨g7, 4, none⟩ = some (.slice y5 m5 d5) ∧ W.cell? ⟨g7, 5, none⟩ = some (.bool false)) := Lib.hid (fun W h => RB.cells (w := W) (h.trans HG7.out))
          have HS0 := Lib.hid (HSS.out W7.drew rfl)
          refine wp_region_held (S := (fun w' => w'.cell? ⟨g7, 0, none⟩ = some (.string o5) ∧ w'.cell? ⟨g7, 1, none⟩ = some (.float .f64 n5) ∧ w'.cell? ⟨g7, 2, none⟩ = some (.string s5) ∧ w'.cell? ⟨g7, 3, none⟩ = some (.slice x5 l5 c5) ∧ w'.cell? ⟨g7, 4, none⟩ = some (.slice y5 m5 d5) ∧ w'.cell? ⟨g7, 5, none⟩ = some (.bool false))) (by kernel_rfl) ?_
          change wpAnyH _ _ _ _ _ _ _ _ (World.drew _)
          refine wpAnyH_take (i := 0) (v := _) rfl (by kernel_rfl) (by kernel_rfl) (by kernel_rfl) (fun _ _ _ h => h) (Or.inl ⟨by rfl, by intro w hSw; (try dsimp only at hSw); go_simp; try (with_reducible rfl)⟩) HS0.out ?_
          try simp only [Act.put, List.setIfInBounds_toArray]
          refine wpAnyH_take (i := 2) (v := _) rfl (by kernel_rfl) (by kernel_rfl) (by kernel_rfl) (fun _ _ _ h => h) (Or.inl ⟨by rfl, by intro w hSw; (try dsimp only at hSw); go_simp; try (with_reducible rfl)⟩) HS0.out ?_
          try simp only [Act.put]
          refine wpAnyH_take (i := 3) (v := _) rfl (by kernel_rfl) (by kernel_rfl) (by kernel_rfl) (fun _ _ _ h => h) (Or.inl ⟨by rfl, by intro w hSw; (try dsimp only at hSw); go_simp; try (with_reducible rfl)⟩) HS0.out ?_
          try simp only [Act.put]
          refine wpAnyH_take (i := 6) (v := _) rfl (by kernel_rfl) (by kernel_rfl) (by kernel_rfl) (fun _ _ _ h => h) (Or.inl ⟨by rfl, by intro w hSw; (try dsimp only at hSw); go_simp; try (with_reducible rfl)⟩) HS0.out ?_
          try simp only [Act.put]
          refine wpAnyH_take (i := 7) (v := _) rfl (by kernel_rfl) (by kernel_rfl) (by kernel_rfl) (fun _ _ _ h => h) (Or.inl ⟨by rfl, by intro w hSw; (try dsimp only at hSw); go_simp; try (with_reducible rfl)⟩) HS0.out ?_
          try simp only [Act.put]
          refine wpAnyH_ready (rs := [1, 4]) (by kernel_rfl) (by simp) ?_
          have HAL8 : Hid (Below W7.heap.size W7 (W7.alloc (.cells #[.string o5, .float .f64 n5, .string s5, .slice x5 l5 c5] 26)).drew) := Lib.hid (((Below.refl _ _).alloc (Nat.le_refl _) _).drew)
          have HS8 := Lib.hid (HSS.out (W7.alloc (.cells #[.string o5, .float .f64 n5, .string s5, .slice x5 l5 c5] 26)).drew (HAL8.out.block g7 hg7))
          have HSZ8 : Hid ((W7.alloc (.cells #[.string o5, .float .f64 n5, .string s5, .slice x5 l5 c5] 26)).drew.heap.size = W7.heap.size + 1) := Lib.hid (by show (W7.alloc _).heap.size = _; simp)
          have hdl : D.length ≤ 2 := by have := HDL.out; omega
          obtain ⟨i0, hi, hi0, hi1, hi2⟩ := info_node
          have HII := Lib.hid (And.intro hi (And.intro hi0 (And.intro hi1 hi2)))
          clear hi hi0 hi1 hi2
          have HAPP : Hid (∀ v' w', w'.ownsRow (w.heap.size + 2) 26 4 v' (D.length + 1) (cs ++ [.string o5, .float .f64 n5, .string s5, .slice x5 l5 c5]) → (W7.alloc (.cells #[.string o5, .float .f64 n5, .string s5, .slice x5 l5 c5] 26)).drew.grownBy w' (Value.slice x3 D.length c3).ownBlock → (v'.ownBlock = (Value.slice x3 D.length c3).ownBlock ∨ v'.ownBlock = some (W7.alloc (.cells #[.string o5, .float .f64 n5, .string s5, .slice x5 l5 c5] 26)).drew.heap.size) →
              CLI w op (D ++ [t5]) v' (w'.setCell ⟨w.heap.size + 1, 3, none⟩ v') ∧ w'.cell? ⟨w.heap.size + 1, 3, none⟩ = some (.slice x3 D.length c3) ∧ w'.frozen? ⟨w.heap.size + 1, 3, none⟩ = false ∧ w'.heap[g7]? = W7.heap[g7]? ∧ (w'.setCell ⟨w.heap.size + 1, 3, none⟩ v').heap[g7]? = W7.heap[g7]? ∧ TokV B (w'.setCell ⟨w.heap.size + 1, 3, none⟩ v') (.slice y5 m5 d5) ts2) := Lib.hid (fun v' w' h1 h2 h3 => by
            have hc := CellsT.kept (B := fun b => w.heap.size + 2 ≤ b ∧ (Value.slice x3 D.length c3).ownBlock ≠ some b) HAL8.out.size (fun b hb hl => ⟨hb, HAL8.out.block b hl⟩) D cs HCS.out
            obtain ⟨r1, r2, r3, r4⟩ := cli_app (HI7.out.below HAL8.out) hc (HN7.out.below HAL8.out) (HROW.out.alloc _).drew h1 h2 h3
            have r5 := r4 g7 (by rw [HSZ8.out]; omega) (fun e => by have := HOB.out g7 e; omega) (by omega)
            refine ⟨r1, r2, r3, r5.1.trans (HAL8.out.block g7 hg7), r5.2.trans (HAL8.out.block g7 hg7), HT7.out.kept (fun b hb => ?_)⟩
            have hb2 := HB.out
            exact (r4 b (by rw [HSZ8.out]; omega) (fun e => by have := HROW.out.lt b e; omega) (by omega)).2.trans (HAL8.out.block b (by omega)))
          refine AllReadyH.cons rfl (fun K hK => ?_) (AllReadyH.cons rfl (fun K hK => ?_) AllReadyH.nil)
          · go_simp
            refine hK.out _ _ HS0.out (fun _ => ?_)
            clear hK K
            try simp only [Act.put, List.setIfInBounds_toArray, List.set_cons_zero, List.set_cons_succ]
            refine wpAnyH_ready (rs := [4]) (by kernel_rfl) (by simp) ?_
            refine AllReadyH.cons rfl (fun K hK => ?_) AllReadyH.nil
            go_simp
            refine hK.out _ _ HS8.out (fun _ => ?_)
            clear hK K
            try simp only [Act.put, List.setIfInBounds_toArray, List.set_cons_zero, List.set_cons_succ]
            refine wpAnyH_ready (rs := [5]) (by kernel_rfl) (by simp) ?_
            refine AllReadyH.cons rfl (fun K hK => ?_) AllReadyH.nil
            refine step_append_own rfl (.tmp 30) (.tmp 33) 24 rfl (w.heap.size + 2) 26 i0 (.agg #[.string ⟨#[]⟩, .float .f64 0, .string ⟨#[]⟩, .slice none 0 0]) 4 64 Tryz.underlying24 HII.out.1 HII.out.2.1 HII.out.2.2.1 HII.out.2.2.2 rfl (by decide) _ _ _ rfl ((HROW.out.alloc _).drew) ⟨W7.heap.size, 0, none⟩ 1 1 [.string o5, .float .f64 n5, .string s5, .slice x5 l5 c5] rfl rfl (four_cells W7 _ _ _ _ _) (by simp [Value.oneCell']) (by unfold maxLen; omega) (by omega) (by rw [HSZ8.out]; omega) ?_
            intro v' w' hown' hgrow' hat'
            obtain ⟨r1, r2, r3, r4, r5, r6⟩ := HAPP.out v' w' hown' hgrow' hat'
            obtain ⟨x', c', rfl⟩ := ownsRow_is hown'
            have HR1 := Lib.hid r1
            have HR6 := Lib.hid r6
            have HS9 := Lib.hid (HSS.out w' r4)
            have HS10 := Lib.hid (HSS.out _ r5)
            clear hown' hgrow' hat' r1 r4 r5 r6
            refine hK.out _ _ HS9.out (fun _ => ?_)
            clear hK K
            try simp only [Act.put, List.setIfInBounds_toArray]
            refine wpAnyH_take (i := 8) (v := _) rfl (by kernel_rfl) (by kernel_rfl) (by kernel_rfl) (fun _ _ _ h => h) (Or.inl ⟨by rfl, by intro w hSw; (try dsimp only at hSw); go_simp; try (with_reducible rfl)⟩) HS9.out ?_
            try simp only [Act.put]
            refine wpAnyH_ready (rs := [9]) (by kernel_rfl) (by simp) ?_
            refine AllReadyH.cons rfl (fun K hK => ?_) AllReadyH.nil
            go_simp
            refine hK.out _ _ HS10.out (fun _ => ?_)
            clear hK K
            try simp only [Act.put, List.setIfInBounds_toArray]
            refine wpAnyH_take (i := 10) (v := _) rfl (by kernel_rfl) (by kernel_rfl) (by kernel_rfl) (fun _ _ _ h => h) (Or.inl ⟨by rfl, by intro w hSw; (try dsimp only at hSw); go_simp; try (with_reducible rfl)⟩) HS10.out ?_
            try simp only [Act.put]
            refine wpAnyH_take (i := 11) (v := _) rfl (by kernel_rfl) (by kernel_rfl) (by kernel_rfl) (fun _ _ _ h => h) (Or.inl ⟨by rfl, by intro w hSw; (try dsimp only at hSw); go_simp; try (with_reducible rfl)⟩) HS10.out ?_
            try simp only [Act.put]
            refine wpAnyH_done (by kernel_rfl) ?_ _
            go_wp2
            go_roundg k
            case measure => omega
            case rel => exact ⟨D ++ [t5], j + 1, ts2, [44], .slice x' (D.length + 1) c', by omega, by go_num, rfl, HR6, HL7, HRS, HR1⟩
          · go_simp
            refine hK.out _ _ HS8.out (fun _ => ?_)
            clear hK K
            try simp only [Act.put, List.setIfInBounds_toArray, List.set_cons_zero, List.set_cons_succ]
            refine wpAnyH_ready (rs := [1]) (by kernel_rfl) (by simp) ?_
            refine AllReadyH.cons rfl (fun K hK => ?_) AllReadyH.nil
            go_simp
            refine hK.out _ _ HS8.out (fun _ => ?_)
            clear hK K
            try simp only [Act.put, List.setIfInBounds_toArray, List.set_cons_zero, List.set_cons_succ]
            refine wpAnyH_ready (rs := [5]) (by kernel_rfl) (by simp) ?_
            refine AllReadyH.cons rfl (fun K hK => ?_) AllReadyH.nil
            refine step_append_own rfl (.tmp 30) (.tmp 33) 24 rfl (w.heap.size + 2) 26 i0 (.agg #[.string ⟨#[]⟩, .float .f64 0, .string ⟨#[]⟩, .slice none 0 0]) 4 64 Tryz.underlying24 HII.out.1 HII.out.2.1 HII.out.2.2.1 HII.out.2.2.2 rfl (by decide) _ _ _ rfl ((HROW.out.alloc _).drew) ⟨W7.heap.size, 0, none⟩ 1 1 [.string o5, .float .f64 n5, .string s5, .slice x5 l5 c5] rfl rfl (four_cells W7 _ _ _ _ _) (by simp [Value.oneCell']) (by unfold maxLen; omega) (by omega) (by rw [HSZ8.out]; omega) ?_
            intro v' w' hown' hgrow' hat'
            obtain ⟨r1, r2, r3, r4, r5, r6⟩ := HAPP.out v' w' hown' hgrow' hat'
            obtain ⟨x', c', rfl⟩ := ownsRow_is hown'
            have HR1 := Lib.hid r1
            have HR6 := Lib.hid r6
            have HS9 := Lib.hid (HSS.out w' r4)
            have HS10 := Lib.hid (HSS.out _ r5)
            clear hown' hgrow' hat' r1 r4 r5 r6
            refine hK.out _ _ HS9.out (fun _ => ?_)
            clear hK K
            try simp only [Act.put, List.setIfInBounds_toArray]
            refine wpAnyH_take (i := 8) (v := _) rfl (by kernel_rfl) (by kernel_rfl) (by kernel_rfl) (fun _ _ _ h => h) (Or.inl ⟨by rfl, by intro w hSw; (try dsimp only at hSw); go_simp; try (with_reducible rfl)⟩) HS9.out ?_
            try simp only [Act.put]
            refine wpAnyH_ready (rs := [9]) (by kernel_rfl) (by simp) ?_
            refine AllReadyH.cons rfl (fun K hK => ?_) AllReadyH.nil
            go_simp
            refine hK.out _ _ HS10.out (fun _ => ?_)
            clear hK K
            try simp only [Act.put, List.setIfInBounds_toArray]
            refine wpAnyH_take (i := 10) (v := _) rfl (by kernel_rfl) (by kernel_rfl) (by kernel_rfl) (fun _ _ _ h => h) (Or.inl ⟨by rfl, by intro w hSw; (try dsimp only at hSw); go_simp; try (with_reducible rfl)⟩) HS10.out ?_
            try simp only [Act.put]
            refine wpAnyH_take (i := 11) (v := _) rfl (by kernel_rfl) (by kernel_rfl) (by kernel_rfl) (fun _ _ _ h => h) (Or.inl ⟨by rfl, by intro w hSw; (try dsimp only at hSw); go_simp; try (with_reducible rfl)⟩) HS10.out ?_
            try simp only [Act.put]
            refine wpAnyH_done (by kernel_rfl) ?_ _
            go_wp2
            go_roundg k
            case measure => omega
            case rel => exact ⟨D ++ [t5], j + 1, ts2, [44], .slice x' (D.length + 1) c', by omega, by go_num, rfl, HR6, HL7, HRS, HR1⟩
        · have HRN := Lib.hid (HBD.out (by
            rcases hcase5 with ⟨_, h⟩ | ⟨h, _⟩
            · exact h
            · cases h))
          clear hcase5 hnode5 hb5 HI HST HBD HLN HC HLR HIS2 HN7
          go_wp2_with (first | (go_at_call 94; fail))
          go_at_call 94
          refine (rbad B _).mono ?_
          rintro e w6 ⟨hb6, v6, rfl, hv6⟩
          obtain ⟨hz, o, nn, s, x2, l, c, y, m, d, bad, rfl, hend⟩ := rpass HB.out HI7.out.res HI7.out.bel hb6 hv6
          have HE := Lib.hid hend
          obtain ⟨k0, k1, k2, k3, k4, k5⟩ := hz.cells
          have HZ := Lib.hid hz
          have f0 := hz.fr 0
          have f1 := hz.fr 1
          have f2 := hz.fr 2
          have f3 := hz.fr 3
          have f4 := hz.fr 4
          have f5 := hz.fr 5
          clear hz hend hb6 hv6 HI7
          go_wp2
          rw [HRN.out]
          exact bodyPost_ret (read_node _ rfl _ _ w.heap.size _ _ _ _ _ _ rfl HZ.out.put) rfl HE.out
    · have e0 : gk = 0 := by omega
      subst e0
      have qi : ¬ (j : Int) < (many : Int) := by omega
      have HRE : Hid (res = if isTok ts1 4 [41] = true then some (.mk op 0 [] D, ts1.tail) else none) := Lib.hid (by rw [HR.out, close_end])
      have HIS2 := Lib.hid (HIS.out _ [41] HT.out)
      cases hq : isTok ts1 4 [41]
      · have HRN : Hid (res = none) := Lib.hid (by rw [HRE.out, hq]; rfl)
        rw [hq] at HIS2
        clear hq HR HIS HRE
        go_wp2_with (first | (go_at_call 62; refine (HIS2.out).mono ?_; rintro e w5 ⟨rfl, rfl⟩) | (go_at_call 94; fail))
        go_at_call 94
        refine (rbad B _).mono ?_
        rintro e w6 ⟨hb6, v6, rfl, hv6⟩
        obtain ⟨hz, o, nn, s, x2, l, c, y, m, d, bad, rfl, hend⟩ := rpass HB.out HI.out.res HI.out.bel hb6 hv6
        have HE := Lib.hid hend
        obtain ⟨k0, k1, k2, k3, k4, k5⟩ := hz.cells
        have HZ := Lib.hid hz
        have f0 := hz.fr 0
        have f1 := hz.fr 1
        have f2 := hz.fr 2
        have f3 := hz.fr 3
        have f4 := hz.fr 4
        have f5 := hz.fr 5
        clear hz hend hb6 hv6 HI
        go_wp2
        rw [HRN.out]
        exact bodyPost_ret (read_node _ rfl _ _ w.heap.size _ _ _ _ _ _ rfl HZ.out.put) rfl HE.out
      · obtain ⟨t, r, rfl⟩ : ∃ t r, ts1 = t :: r := by
          cases ts1 with
          | nil => cases hq
          | cons t r => exact ⟨t, r, rfl⟩
        have HRS : Hid (res = some (.mk op 0 [] D, r)) := Lib.hid (by rw [HRE.out, if_pos hq]; rfl)
        obtain ⟨y2, m2, d2, hsl, hts⟩ := tok_slice HT.out
        have HTS := Lib.hid hts
        rw [hq] at HIS2
        obtain ⟨cs, hrow, _⟩ := HI.out.row
        obtain ⟨x3, c3, rfl⟩ := ownsRow_is hrow
        obtain ⟨q0, q1, q2, q3, qf⟩ := HI.out.node.cells
        obtain ⟨k0, k1, k2, k3, k4, k5⟩ := HI.out.res.cells
        have f0 := HI.out.res.fr 0
        have f1 := HI.out.res.fr 1
        have f2 := HI.out.res.fr 2
        have f3 := HI.out.res.fr 3
        have f4 := HI.out.res.fr 4
        have f5 := HI.out.res.fr 5
        have hgn := HI.out.node.lt
        clear hq HR HIS HRE hts hrow qf
        go_wp2_with (first | (go_at_call 62; refine (HIS2.out).mono ?_; rintro e w5 ⟨rfl, rfl⟩))
        have HE := Lib.hid (cli_end HB.out HI.out HTS.out HL.out.2.2.1.tail)
        rw [← HRS.out] at HE
        clear HIS2 HRS HTS HL HI HT
        go_region
        go_wp2
        exact bodyPost_ret (read_node _ rfl _ _ w.heap.size _ _ _ _ _ _ rfl HE.out.1) rfl HE.out.2
end Go.Proofs.YtmhfnpabgkkjaaaGreat
