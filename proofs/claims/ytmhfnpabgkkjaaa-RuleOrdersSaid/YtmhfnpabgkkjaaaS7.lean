/- Walk: bound. -/
import Derived.Test.YtmhfnpabgkkjaaaS6
import Derived.Test.YtmhfnpabgkkjaaaQL
namespace Go.Proofs.Ytmhfnpabgkkjaaa
open Go.RowKit Go.Shelf
theorem bel1 (w : World) (o : Obj) : Below w.heap.size w (w.alloc o) := (Below.refl _ _).alloc (Nat.le_refl _) _
attribute [local go_sem] run_store_float
/-- Binds in memory. -/
def BndV (w : World) (v : Value) (L : List Bnd) : Prop := ∃ x cap, v = .slice x L.length cap ∧ L.length ≤ cap ∧ (x = none → L = []) ∧ ∀ a, x = some a → (L ≠ [] → a.block < w.heap.size) ∧ ∀ i b, L[i]? = some b →
  w.cell? (a.add (i * 5)) = some (.string (tx b.nm)) ∧ w.cell? (a.add (i * 5 + 1)) = some (.int .i64 b.v.t) ∧ w.cell? (a.add (i * 5 + 2)) = some (.float .f64 b.v.n) ∧ w.cell? (a.add (i * 5 + 3)) = some (.string (tx b.v.s)) ∧ w.cell? (a.add (i * 5 + 4)) = some (.bool b.v.b)
theorem BndV.agg {w : World} {v : Value} {L : List Bnd} (h : BndV w v L) : ∃ x n c, v = .slice x n c := by
  obtain ⟨x, cap, rfl, _⟩ := h; exact ⟨_, _, _, rfl⟩
theorem BndV.kept {w w' : World} {v : Value} {L : List Bnd} (h : BndV w v L) (hz : w.heap.size ≤ w'.heap.size) (hk : ∀ b, b < w.heap.size → w'.heap[b]? = w.heap[b]?) : BndV w' v L := by
  obtain ⟨x, cap, hv, h1, h2, h3⟩ := h
  refine ⟨x, cap, hv, h1, h2, fun a ha => ?_⟩
  obtain ⟨g0, g⟩ := h3 a ha
  refine ⟨fun e => Nat.lt_of_lt_of_le (g0 e) hz, fun i b hi => ?_⟩
  replace g0 := g0 (nil_not (List.getElem?_eq_some_iff.1 hi).1)
  obtain ⟨g1, g2, g3, g4, g5⟩ := g i b hi
  have hs : ∀ j, w'.heap[(a.add j).block]? = w.heap[(a.add j).block]? := fun j => by rw [add_block]; exact hk _ g0
  exact ⟨cell_same (hs _) g1, cell_same (hs _) g2, cell_same (hs _) g3, cell_same (hs _) g4, cell_same (hs _) g5⟩
theorem BndV.below {w w' : World} {v : Value} {L : List Bnd} (h : BndV w v L) (hb : Below w.heap.size w w') : BndV w' v L := h.kept hb.size hb.block
theorem BndV.nil (w : World) : BndV w (.slice none 0 0) [] := ⟨none, 0, rfl, Nat.le_refl _, fun _ => rfl, fun a ha => by cases ha⟩
/-- A variable of Val. -/
def VB (w : World) (g : Nat) (v0 v1 v2 v3 : Value) : Prop := w.heap[g]? = some (.cells #[v0, v1, v2, v3] 25 (0, 0))
theorem VB.cells {w : World} {g : Nat} {v0 v1 v2 v3 : Value} (h : VB w g v0 v1 v2 v3) : w.cell? ⟨g, 0, none⟩ = some v0 ∧ w.cell? ⟨g, 1, none⟩ = some v1 ∧ w.cell? ⟨g, 2, none⟩ = some v2 ∧ w.cell? ⟨g, 3, none⟩ = some v3 := by
  unfold VB at h
  exact ⟨by simp [World.cell?, h], by simp [World.cell?, h], by simp [World.cell?, h], by simp [World.cell?, h]⟩
theorem VB.fr {w : World} {g : Nat} {v0 v1 v2 v3 : Value} (h : VB w g v0 v1 v2 v3) (j : Nat) : w.frozen? ⟨g, j, none⟩ = false := by unfold VB at h; simp [World.frozen?, h]
theorem VB.lt {w : World} {g : Nat} {v0 v1 v2 v3 : Value} (h : VB w g v0 v1 v2 v3) : g < w.heap.size := (Array.getElem?_eq_some_iff.1 h).1
theorem VB.below {w w' : World} {g : Nat} {v0 v1 v2 v3 : Value} (h : VB w g v0 v1 v2 v3) (hb : Below w.heap.size w w') : VB w' g v0 v1 v2 v3 := (hb.block g h.lt).trans h
theorem VB.put {w : World} {g : Nat} {u0 u1 u2 u3 v0 v1 v2 v3 : Value} (h : VB w g u0 u1 u2 u3) : VB (putN w g v0 v1 v2 v3) g v0 v1 v2 v3 := by
  unfold putN VB
  rw [set_block (set_block (set_block (set_block h _) _) _) _]
  rfl
/-- What bound gives as a Go value. -/
def bvV (o : Option Vl) : Value := match o with
  | none => .agg #[.int .i64 0, .float .f64 0, .string (tx []), .bool false]
  | some v => .agg #[.int .i64 v.t, .float .f64 v.n, .string (tx v.s), .bool v.b]
theorem firstB_step {s : Bs} {L : List Bnd} {j : Nat} (h : j < L.length) : firstB s (L.drop j) = if L[j].nm = s then some L[j] else firstB s (L.drop (j + 1)) := by
  rw [List.drop_eq_getElem_cons h]
  rfl
theorem firstB_end {s : Bs} {L : List Bnd} {j : Nat} (h : L.length ≤ j) : firstB s (L.drop j) = none := by
  rw [List.drop_eq_nil_of_le h]
  rfl
set_option maxRecDepth 100000 in
set_option maxHeartbeats 8000000 in
theorem wbound (s : Bs) (v : Value) (L : List Bnd) (hL : L.length ≤ 1000000) (w : World) (h : BndV w v L) : Calls Try.prog 21 #[.string (tx s), v] w fun e w' => e = .returned (.tuple #[bvV (boundV L s), .bool (boundV L s).isSome]) ∧ Below w.heap.size w w' := by
  obtain ⟨x, cap, rfl, hcap, hx, hc⟩ := h
  have HC := Lib.hid hc
  have HX := Lib.hid hx
  obtain ⟨res, hres⟩ : ∃ y, y = boundV L s := ⟨_, rfl⟩
  rw [← hres]
  have HR : Hid (res = match firstB s (L.drop 0) with | none => none | some b => plainV b.v) := Lib.hid hres
  obtain ⟨N, hN⟩ : ∃ N, N = L.length := ⟨_, rfl⟩
  have HN := Lib.hid hN
  have HZ0 : Hid (VB (w.alloc (.cells #[.int .i64 0, .float .f64 0, .string ⟨#[]⟩, .bool false] 25)) w.heap.size (.int .i64 0) (.float .f64 0) (.string ⟨#[]⟩) (.bool false)) := Lib.hid (heap_alloc_new _ _)
  have HB0 := Lib.hid (bel1 w (.cells #[.int .i64 0, .float .f64 0, .string ⟨#[]⟩, .bool false] 25))
  rw [← hN] at hL hcap ⊢
  clear hc hx hN hres
  go_enter Try.func21, Try.ntmps21
  go_wp2_with fail
  generalize w.alloc (.cells #[.int .i64 0, .float .f64 0, .string ⟨#[]⟩, .bool false] 25) = W0 at HZ0 HB0 ⊢
  go_loopg [10] N (fun gh i wr => ∃ j : Nat, j + gh = N ∧ i = .int .i64 j ∧ Hid (res = match firstB s (L.drop j) with | none => none | some b => plainV b.v) ∧ Hid (VB wr w.heap.size (.int .i64 0) (.float .f64 0) (.string ⟨#[]⟩) (.bool false)) ∧ Hid (Below w.heap.size w wr))
  case atStart => exact ⟨0, by omega, rfl, HR, HZ0, HB0⟩
  case round =>
    obtain ⟨j, hj, rfl, HR1, HZ, HB⟩ := hrel
    clear HR HZ0 HB0
    have hlt := HZ.out.lt
    by_cases q : j < N
    · have hjl : j < L.length := by have := HN.out; omega
      obtain ⟨a, rfl⟩ : ∃ a, x = some a := by
        cases x with
        | none => have := HX.out rfl; rw [this] at hjl; cases hjl
        | some a => exact ⟨a, rfl⟩
      obtain ⟨e0, e1, e2, e3, e4⟩ := (HC.out a rfl).2 j L[j] (List.getElem?_eq_getElem hjl)
      have hab : a.block < w.heap.size := (HC.out a rfl).1 (nil_not hjl)
      have hs : ∀ k, wr.heap[(a.add k).block]? = w.heap[(a.add k).block]? := fun k => by rw [add_block]; exact HB.out.block _ hab
      have d0 := cell_same (hs _) e0
      have d1 := cell_same (hs _) e1
      have d2 := cell_same (hs _) e2
      have d3 := cell_same (hs _) e3
      have d4 := cell_same (hs _) e4
      rw [add_lit _ _ _ (by decide)] at d1 d2 d3 d4
      clear e0 e1 e2 e3 e4 hs
      have HST := Lib.hid (firstB_step (s := s) hjl)
      obtain ⟨bb, hbb⟩ : ∃ bb, bb = L[j] := ⟨_, rfl⟩
      rw [← hbb] at d0 d1 d2 d3 d4 HST
      clear hbb
      obtain ⟨nm, t, fn, sv, bv⟩ := bb
      simp only at d0 d1 d2 d3 d4
      by_cases q1 : nm = s
      · subst q1
        have HRV : Hid (res = plainV ⟨t, fn, sv, bv⟩) := Lib.hid (by rw [HR1.out, HST.out, if_pos rfl])
        have b0 : ((tx nm).toList != (tx nm).toList) = false := bne_self_eq_false _
        obtain ⟨k0, k1, k2, k3⟩ := HZ.out.cells
        have f0 := HZ.out.fr 0
        have f1 := HZ.out.fr 1
        have f2 := HZ.out.fr 2
        have f3 := HZ.out.fr 3
        have HPUT : Hid (∀ (u0 u1 u2 u3 : Value) (c : Obj), VB ((putN wr w.heap.size u0 u1 u2 u3).alloc c) w.heap.size u0 u1 u2 u3 ∧ Below w.heap.size w ((putN wr w.heap.size u0 u1 u2 u3).alloc c)) := Lib.hid (fun u0 u1 u2 u3 c => by
          have h1 := below_put (v0 := u0) (v1 := u1) (v2 := u2) (v3 := u3) HB.out (Nat.le_refl w.heap.size)
          have h2 := HZ.out.put (v0 := u0) (v1 := u1) (v2 := u2) (v3 := u3)
          exact ⟨h2.below ((Below.refl _ _).alloc (Nat.le_refl _) _), h1.alloc (by have := HB.out.size; rw [putN_size]; exact this) _⟩)
        clear HR1 HST HZ
        by_cases t1 : t = 1
        · subst t1
          go_wp2
          refine bodyPost_ret (results_cell_tmp rfl _ _ w.heap.size 25 _ _ _ rfl (HPUT.out _ _ _ _ _).1 Try.underlying25 rfl (by kernel_rfl)) rfl ?_
          rw [HRV.out]
          exact ⟨rfl, (HPUT.out _ _ _ _ _).2⟩
        · have i1 : (t == 1) = false := by simpa using t1
          by_cases t2 : t = 2
          · subst t2
            go_wp2
            refine bodyPost_ret (results_cell_tmp rfl _ _ w.heap.size 25 _ _ _ rfl (HPUT.out _ _ _ _ _).1 Try.underlying25 rfl (by kernel_rfl)) rfl ?_
            rw [HRV.out]
            exact ⟨rfl, (HPUT.out _ _ _ _ _).2⟩
          · have i2 : (t == 2) = false := by simpa using t2
            by_cases t3 : t = 3
            · subst t3
              go_wp2
              refine bodyPost_ret (results_cell_tmp rfl _ _ w.heap.size 25 _ _ _ rfl (HPUT.out _ _ _ _ _).1 Try.underlying25 rfl (by kernel_rfl)) rfl ?_
              rw [HRV.out]
              exact ⟨rfl, (HPUT.out _ _ _ _ _).2⟩
            · have i3 : (t == 3) = false := by simpa using t3
              have HRN : Hid (res = none) := Lib.hid (by rw [HRV.out]; unfold plainV; rw [if_neg t1, if_neg t2, if_neg t3])
              clear HRV
              go_wp2
              refine bodyPost_ret (results_cell_tmp rfl _ _ w.heap.size 25 _ _ _ rfl (HPUT.out _ _ _ _ _).1 Try.underlying25 rfl (by kernel_rfl)) rfl ?_
              rw [HRN.out]
              exact ⟨rfl, (HPUT.out _ _ _ _ _).2⟩
      · have b0 : ((tx nm).toList == (tx s).toList) = false := by rw [tx_toList, tx_toList]; simpa using q1
        have HR2 : Hid (res = match firstB s (L.drop (j + 1)) with | none => none | some b => plainV b.v) := Lib.hid (by rw [HR1.out, HST.out, if_neg q1])
        have HZ2 := Lib.hid (fun c => HZ.out.below ((Below.refl wr.heap.size wr).alloc (Nat.le_refl _) c))
        have HB2 := Lib.hid (fun c => HB.out.alloc HB.out.size c)
        clear q1 HR1 HST HZ HB
        go_wp2
        go_roundg (gk - 1)
        case measure => omega
        case rel => exact ⟨j + 1, by omega, by go_num, HR2, Lib.hid (HZ2.out _), Lib.hid (HB2.out _)⟩
    · have HRN : Hid (res = none) := Lib.hid (by rw [HR1.out, firstB_end (by have := HN.out; omega)])
      obtain ⟨k0, k1, k2, k3⟩ := HZ.out.cells
      have f0 := HZ.out.fr 0
      have f1 := HZ.out.fr 1
      have f2 := HZ.out.fr 2
      have f3 := HZ.out.fr 3
      have HPUT : Hid (∀ (u0 u1 u2 u3 : Value) (_ : Obj), VB ((putN wr w.heap.size u0 u1 u2 u3)) w.heap.size u0 u1 u2 u3 ∧ Below w.heap.size w ((putN wr w.heap.size u0 u1 u2 u3))) := Lib.hid (fun u0 u1 u2 u3 _ => by
        have h1 := below_put (v0 := u0) (v1 := u1) (v2 := u2) (v3 := u3) HB.out (Nat.le_refl w.heap.size)
        have h2 := HZ.out.put (v0 := u0) (v1 := u1) (v2 := u2) (v3 := u3)
        exact ⟨h2, h1⟩)
      clear HZ HR1
      go_wp2
      refine bodyPost_ret (results_cell_tmp rfl _ _ w.heap.size 25 _ _ _ rfl (HPUT.out _ _ _ _ (.cells #[] 0)).1 Try.underlying25 rfl (by kernel_rfl)) rfl ?_
      rw [HRN.out]
      exact ⟨rfl, (HPUT.out _ _ _ _ (.cells #[] 0)).2⟩
end Go.Proofs.Ytmhfnpabgkkjaaa
