/- Own texts, merged: S7, S8, SA. -/
import Derived.Test.YtdomglkcfecnnaaGreatMP33
import Derived.Test.YtdomglkcfecnnaaGreatMP35
/- Walk: bound. -/
namespace Go.Proofs.YtdomglkcfecnnaaGreat
open Go.RowKit Go.Shelf
theorem bel1 (w : World) (o : Obj) : Below w.heap.size w (w.alloc o) := (Below.refl _ _).alloc (Nat.le_refl _) _
attribute [local go_sem] run_store_float
/-- Binds in memory. -/
def BndV (w : World) (v : Value) (L : List Bnd) : Prop := ∃ x cap, v = .slice x L.length cap ∧ L.length ≤ cap ∧ (x = none → L = []) ∧ ∀ a, x = some a → (L ≠ [] → a.block < w.heap.size) ∧ ∀ i b, L[i]? = some b →
  w.cell? (a.add (i * 5)) = some (.string (tx b.nm)) ∧ w.cell? (a.add (i * 5 + 1)) = some (.int .i64 b.v.t) ∧ w.cell? (a.add (i * 5 + 2)) = some (.float .f64 b.v.n) ∧ w.cell? (a.add (i * 5 + 3)) = some (.string (tx b.v.s)) ∧ w.cell? (a.add (i * 5 + 4)) = some (.bool b.v.b)
theorem BndV.agg {w : World} {v : Value} {L : List Bnd} (h : BndV w v L) : ∃ x n c, v = .slice x n c := by
  obtain ⟨x, cap, rfl, _⟩ := h; exact ⟨_, _, _, rfl⟩
theorem BndV.kept {w w' : World} {v : Value} {L : List Bnd} (h : BndV w v L) (hz : w.heap.size ≤ w'.heap.size) (hk : ∀ b, b < w.heap.size → w'.heap[b]? = w.heap[b]?) : BndV w' v L := by
  obtain ⟨x, cap, hv, h1, h2, h3⟩ := h
  refine ⟨x, cap, hv, h1, h2, fun a ha => ?_⟩
  obtain ⟨g0, g⟩ := h3 a ha
  refine ⟨fun e => Nat.lt_of_lt_of_le (g0 e) hz, fun i b hi => ?_⟩
  replace g0 := g0 (nil_not (List.getElem?_eq_some_iff.1 hi).1)
  obtain ⟨g1, g2, g3, g4, g5⟩ := g i b hi
  have hs : ∀ j, w'.heap[(a.add j).block]? = w.heap[(a.add j).block]? := fun j => by rw [add_block]; exact hk _ g0
  exact ⟨cell_same (hs _) g1, cell_same (hs _) g2, cell_same (hs _) g3, cell_same (hs _) g4, cell_same (hs _) g5⟩
theorem BndV.below {w w' : World} {v : Value} {L : List Bnd} (h : BndV w v L) (hb : Below w.heap.size w w') : BndV w' v L := h.kept hb.size hb.block
theorem BndV.nil (w : World) : BndV w (.slice none 0 0) [] := ⟨none, 0, rfl, Nat.le_refl _, fun _ => rfl, fun a ha => by cases ha⟩
/-- A variable of Val. -/
def VB (w : World) (g : Nat) (v0 v1 v2 v3 : Value) : Prop := w.heap[g]? = some (.cells #[v0, v1, v2, v3] 94 (0, 0))
theorem VB.cells {w : World} {g : Nat} {v0 v1 v2 v3 : Value} (h : VB w g v0 v1 v2 v3) : w.cell? ⟨g, 0, none⟩ = some v0 ∧ w.cell? ⟨g, 1, none⟩ = some v1 ∧ w.cell? ⟨g, 2, none⟩ = some v2 ∧ w.cell? ⟨g, 3, none⟩ = some v3 := by
  unfold VB at h
  exact ⟨by simp [World.cell?, h], by simp [World.cell?, h], by simp [World.cell?, h], by simp [World.cell?, h]⟩
theorem VB.fr {w : World} {g : Nat} {v0 v1 v2 v3 : Value} (h : VB w g v0 v1 v2 v3) (j : Nat) : w.frozen? ⟨g, j, none⟩ = false := by unfold VB at h; simp [World.frozen?, h]
theorem VB.lt {w : World} {g : Nat} {v0 v1 v2 v3 : Value} (h : VB w g v0 v1 v2 v3) : g < w.heap.size := (Array.getElem?_eq_some_iff.1 h).1
theorem VB.below {w w' : World} {g : Nat} {v0 v1 v2 v3 : Value} (h : VB w g v0 v1 v2 v3) (hb : Below w.heap.size w w') : VB w' g v0 v1 v2 v3 := (hb.block g h.lt).trans h
theorem VB.put {w : World} {g : Nat} {u0 u1 u2 u3 v0 v1 v2 v3 : Value} (h : VB w g u0 u1 u2 u3) : VB (putN w g v0 v1 v2 v3) g v0 v1 v2 v3 := by
  unfold putN VB
  rw [set_block (set_block (set_block (set_block h _) _) _) _]
  rfl
/-- What bound gives as a Go value. -/
def bvV (o : Option Vl) : Value := match o with
  | none => .agg #[.int .i64 0, .float .f64 0, .string (tx []), .bool false]
  | some v => .agg #[.int .i64 v.t, .float .f64 v.n, .string (tx v.s), .bool v.b]
theorem firstB_step {s : Bs} {L : List Bnd} {j : Nat} (h : j < L.length) : firstB s (L.drop j) = if L[j].nm = s then some L[j] else firstB s (L.drop (j + 1)) := by
  rw [List.drop_eq_getElem_cons h]
  rfl
theorem firstB_end {s : Bs} {L : List Bnd} {j : Nat} (h : L.length ≤ j) : firstB s (L.drop j) = none := by
  rw [List.drop_eq_nil_of_le h]
  rfl
set_option maxRecDepth 100000 in
set_option maxHeartbeats 8000000 in
theorem wbound (s : Bs) (v : Value) (L : List Bnd) (hL : L.length ≤ 1000000) (w : World) (h : BndV w v L) : Calls Tryz.prog 85 #[.string (tx s), v] w fun e w' => e = .returned (.tuple #[bvV (boundV L s), .bool (boundV L s).isSome]) ∧ Below w.heap.size w w' := by
  obtain ⟨x, cap, rfl, hcap, hx, hc⟩ := h
  have HC := Lib.hid hc
  have HX := Lib.hid hx
  obtain ⟨res, hres⟩ : ∃ y, y = boundV L s := ⟨_, rfl⟩
  rw [← hres]
  have HR : Hid (res = match firstB s (L.drop 0) with | none => none | some b => plainV b.v) := Lib.hid hres
  obtain ⟨N, hN⟩ : ∃ N, N = L.length := ⟨_, rfl⟩
  have HN := Lib.hid hN
  have HZ0 : Hid (VB (w.alloc (.cells #[.int .i64 0, .float .f64 0, .string ⟨#[]⟩, .bool false] 94)) w.heap.size (.int .i64 0) (.float .f64 0) (.string ⟨#[]⟩) (.bool false)) := Lib.hid (heap_alloc_new _ _)
  have HB0 := Lib.hid (bel1 w (.cells #[.int .i64 0, .float .f64 0, .string ⟨#[]⟩, .bool false] 94))
  rw [← hN] at hL hcap ⊢
  clear hc hx hN hres
  go_enter Tryz.func85, Tryz.ntmps85
  go_wp2_with fail
  generalize w.alloc (.cells #[.int .i64 0, .float .f64 0, .string ⟨#[]⟩, .bool false] 94) = W0 at HZ0 HB0 ⊢
  go_loopg [10] N (fun gh i wr => ∃ j : Nat, j + gh = N ∧ i = .int .i64 j ∧ Hid (res = match firstB s (L.drop j) with | none => none | some b => plainV b.v) ∧ Hid (VB wr w.heap.size (.int .i64 0) (.float .f64 0) (.string ⟨#[]⟩) (.bool false)) ∧ Hid (Below w.heap.size w wr))
  case atStart => exact ⟨0, by omega, rfl, HR, HZ0, HB0⟩
  case round =>
    obtain ⟨j, hj, rfl, HR1, HZ, HB⟩ := hrel
    clear HR HZ0 HB0
    have hlt := HZ.out.lt
    by_cases q : j < N
    · have hjl : j < L.length := by have := HN.out; omega
      obtain ⟨a, rfl⟩ : ∃ a, x = some a := by
        cases x with
        | none => have := HX.out rfl; rw [this] at hjl; cases hjl
        | some a => exact ⟨a, rfl⟩
      obtain ⟨e0, e1, e2, e3, e4⟩ := (HC.out a rfl).2 j L[j] (List.getElem?_eq_getElem hjl)
      have hab : a.block < w.heap.size := (HC.out a rfl).1 (nil_not hjl)
      have hs : ∀ k, wr.heap[(a.add k).block]? = w.heap[(a.add k).block]? := fun k => by rw [add_block]; exact HB.out.block _ hab
      have d0 := cell_same (hs _) e0
      have d1 := cell_same (hs _) e1
      have d2 := cell_same (hs _) e2
      have d3 := cell_same (hs _) e3
      have d4 := cell_same (hs _) e4
      rw [add_lit _ _ _ (by decide)] at d1 d2 d3 d4
      clear e0 e1 e2 e3 e4 hs
      have HST := Lib.hid (firstB_step (s := s) hjl)
      obtain ⟨bb, hbb⟩ : ∃ bb, bb = L[j] := ⟨_, rfl⟩
      rw [← hbb] at d0 d1 d2 d3 d4 HST
      clear hbb
      obtain ⟨nm, t, fn, sv, bv⟩ := bb
      simp only at d0 d1 d2 d3 d4
      by_cases q1 : nm = s
      · subst q1
        have HRV : Hid (res = plainV ⟨t, fn, sv, bv⟩) := Lib.hid (by rw [HR1.out, HST.out, if_pos rfl])
        have b0 : ((tx nm).toList != (tx nm).toList) = false := bne_self_eq_false _
        obtain ⟨k0, k1, k2, k3⟩ := HZ.out.cells
        have f0 := HZ.out.fr 0
        have f1 := HZ.out.fr 1
        have f2 := HZ.out.fr 2
        have f3 := HZ.out.fr 3
        have HPUT : Hid (∀ (u0 u1 u2 u3 : Value) (c : Obj), VB ((putN wr w.heap.size u0 u1 u2 u3).alloc c) w.heap.size u0 u1 u2 u3 ∧ Below w.heap.size w ((putN wr w.heap.size u0 u1 u2 u3).alloc c)) := Lib.hid (fun u0 u1 u2 u3 c => by
          have h1 := below_put (v0 := u0) (v1 := u1) (v2 := u2) (v3 := u3) HB.out (Nat.le_refl w.heap.size)
          have h2 := HZ.out.put (v0 := u0) (v1 := u1) (v2 := u2) (v3 := u3)
          exact ⟨h2.below ((Below.refl _ _).alloc (Nat.le_refl _) _), h1.alloc (by have := HB.out.size; rw [putN_size]; exact this) _⟩)
        clear HR1 HST HZ
        by_cases t1 : t = 1
        · subst t1
          go_wp2
          refine bodyPost_ret (results_cell_tmp rfl _ _ w.heap.size 94 _ _ _ rfl (HPUT.out _ _ _ _ _).1 Tryz.underlying94 rfl (by kernel_rfl)) rfl ?_
          rw [HRV.out]
          exact ⟨rfl, (HPUT.out _ _ _ _ _).2⟩
        · have i1 : (t == 1) = false := by simpa using t1
          by_cases t2 : t = 2
          · subst t2
            go_wp2
            refine bodyPost_ret (results_cell_tmp rfl _ _ w.heap.size 94 _ _ _ rfl (HPUT.out _ _ _ _ _).1 Tryz.underlying94 rfl (by kernel_rfl)) rfl ?_
            rw [HRV.out]
            exact ⟨rfl, (HPUT.out _ _ _ _ _).2⟩
          · have i2 : (t == 2) = false := by simpa using t2
            by_cases t3 : t = 3
            · subst t3
              go_wp2
              refine bodyPost_ret (results_cell_tmp rfl _ _ w.heap.size 94 _ _ _ rfl (HPUT.out _ _ _ _ _).1 Tryz.underlying94 rfl (by kernel_rfl)) rfl ?_
              rw [HRV.out]
              exact ⟨rfl, (HPUT.out _ _ _ _ _).2⟩
            · have i3 : (t == 3) = false := by simpa using t3
              have HRN : Hid (res = none) := Lib.hid (by rw [HRV.out]; unfold plainV; rw [if_neg t1, if_neg t2, if_neg t3])
              clear HRV
              go_wp2
              refine bodyPost_ret (results_cell_tmp rfl _ _ w.heap.size 94 _ _ _ rfl (HPUT.out _ _ _ _ _).1 Tryz.underlying94 rfl (by kernel_rfl)) rfl ?_
              rw [HRN.out]
              exact ⟨rfl, (HPUT.out _ _ _ _ _).2⟩
      · have b0 : ((tx nm).toList == (tx s).toList) = false := by rw [tx_toList, tx_toList]; simpa using q1
        have HR2 : Hid (res = match firstB s (L.drop (j + 1)) with | none => none | some b => plainV b.v) := Lib.hid (by rw [HR1.out, HST.out, if_neg q1])
        have HZ2 := Lib.hid (fun c => HZ.out.below ((Below.refl wr.heap.size wr).alloc (Nat.le_refl _) c))
        have HB2 := Lib.hid (fun c => HB.out.alloc HB.out.size c)
        clear q1 HR1 HST HZ HB
        go_wp2
        go_roundg (gk - 1)
        case measure => omega
        case rel => exact ⟨j + 1, by omega, by go_num, HR2, Lib.hid (HZ2.out _), Lib.hid (HB2.out _)⟩
    · have HRN : Hid (res = none) := Lib.hid (by rw [HR1.out, firstB_end (by have := HN.out; omega)])
      obtain ⟨k0, k1, k2, k3⟩ := HZ.out.cells
      have f0 := HZ.out.fr 0
      have f1 := HZ.out.fr 1
      have f2 := HZ.out.fr 2
      have f3 := HZ.out.fr 3
      have HPUT : Hid (∀ (u0 u1 u2 u3 : Value) (_ : Obj), VB ((putN wr w.heap.size u0 u1 u2 u3)) w.heap.size u0 u1 u2 u3 ∧ Below w.heap.size w ((putN wr w.heap.size u0 u1 u2 u3))) := Lib.hid (fun u0 u1 u2 u3 _ => by
        have h1 := below_put (v0 := u0) (v1 := u1) (v2 := u2) (v3 := u3) HB.out (Nat.le_refl w.heap.size)
        have h2 := HZ.out.put (v0 := u0) (v1 := u1) (v2 := u2) (v3 := u3)
        exact ⟨h2, h1⟩)
      clear HZ HR1
      go_wp2
      refine bodyPost_ret (results_cell_tmp rfl _ _ w.heap.size 94 _ _ _ rfl (HPUT.out _ _ _ _ (.cells #[] 0)).1 Tryz.underlying94 rfl (by kernel_rfl)) rfl ?_
      rw [HRN.out]
      exact ⟨rfl, (HPUT.out _ _ _ _ (.cells #[] 0)).2⟩
end Go.Proofs.YtdomglkcfecnnaaGreat
/- Walks: shaped, typed. -/
namespace Go.Proofs.YtdomglkcfecnnaaGreat
open Go.RowKit Go.Shelf
attribute [local go_sem] run_store_float
set_option maxRecDepth 100000 in
set_option maxHeartbeats 4000000 in
theorem wshaped (A : Nat → Prop) (v : Value) (op s : Bs) (fn : Nat) (l : List Tree) (w : World) (hv : NodeV A w v (.mk op fn s l)) : Calls Tryz.prog 84 #[v] w fun e w' => e = .returned (.bool (decide (takesT op = some l.length))) ∧ Below w.heap.size w w' := by
  obtain ⟨x, cap, rfl, hcap, _⟩ := hv
  have HA := Lib.hid (fun W => warity op W)
  have HAL := Lib.hid (fun o => bel1 w o)
  obtain ⟨N, hN⟩ : ∃ N, N = l.length := ⟨_, rfl⟩
  rw [← hN] at hcap ⊢
  clear hN
  cases hk : takesT op with
  | none =>
    rw [hk] at HA
    have HR : Hid (decide ((none : Option Nat) = some N) = false) := Lib.hid (by simp)
    clear hk
    go_enter Tryz.func84, Tryz.ntmps84
    go_wp2_with (first | (go_at_call 107; refine (HA.out _).mono ?_; rintro e w1 ⟨rfl, rfl⟩))
    go_ret
    exact ⟨ret_bool HR.out.symm, HAL.out _⟩
  | some k =>
    rw [hk] at HA
    have HR : Hid (((k : Int) == (N : Int)) = decide ((some k : Option Nat) = some N)) := Lib.hid (by
      by_cases e : k = N
      · simp [e]
      · have h1 : ((k : Int) == (N : Int)) = false := by simpa using (show ¬ ((k : Int) = (N : Int)) by omega)
        rw [h1]
        simp [e])
    have HK : Hid (Calls Tryz.prog 107 #[.string (tx op)] (w.alloc (.cells #[.string (tx op), .float .f64 fn, .string (tx s), .slice x N cap] 119)) fun e w' => e = .returned (.tuple #[.int .i64 k, .bool true]) ∧ (w.alloc (.cells #[.string (tx op), .float .f64 fn, .string (tx s), .slice x N cap] 119)) = w') := Lib.hid (HA.out _)
    clear hk HA
    go_enter Tryz.func84, Tryz.ntmps84
    go_wp2_with (first | (go_at_call 107; refine (HK.out).mono ?_; rintro e w1 ⟨rfl, rfl⟩))
    go_ret
    exact ⟨ret_bool HR.out, HAL.out _⟩
theorem info_ty : ∃ i0, Tryz.prog.info? 92 = some i0 ∧ i0.zero = some (.int .i64 0) ∧ i0.size = 1 ∧ i0.bytes = 8 :=
  info_parts (show (Tryz.prog.info? 92).map (fun i => (i.zero, i.size, i.bytes)) = some (some (.int .i64 0), 1, 8) by kernel_rfl)
def tysV (l : List Nat) : List Value := l.map fun k => Value.int .i64 (k : Nat)
theorem tyV_row {n0 : Nat} {w : World} {v : Value} {l : List Nat} (h : w.ownsRow n0 92 1 v l.length (tysV l)) : TyV w v l := by
  have hc := fun g (hg : v.ownBlock = some g) => h.cells hg
  rcases h.2 with ⟨rfl, h3⟩ | ⟨g, cap, cur, rfl, _, _, hcap, _⟩
  · have : l = [] := List.length_eq_zero_iff.1 h3
    subst this
    exact ⟨none, 0, rfl, Nat.le_refl _, fun _ => rfl, fun a ha => by cases ha⟩
  · refine ⟨some ⟨g, 0, none⟩, cap, rfl, hcap, (fun e => by cases e), fun a ha i t hi => ?_⟩
    cases ha
    exact hc g rfl _ _ (by unfold tysV; rw [List.getElem?_map, hi]; rfl)
theorem bound_t {L : List Bnd} {s : Bs} {v : Vl} (h : boundV L s = some v) : v.t = 1 ∨ v.t = 2 ∨ v.t = 3 := by
  unfold boundV at h
  split at h
  · cases h
  · unfold plainV at h
    split at h
    · cases h; exact .inl rfl
    · split at h
      · cases h; exact .inr (.inl rfl)
      · split at h
        · cases h; exact .inr (.inr rfl)
        · cases h
/-- A tree's type, its parts' types being known. -/
theorem tyT_good (L : List Bnd) (op s : Bs) (fn : Nat) (c : List Tree) (h : ∀ i (hi : i < c.length), (tyT L c[i]).2 = 0) : tyT L (.mk op fn s c) =
    if takesT op ≠ some c.length then (0, 190) else if op = wnum then (1, 0) else if op = wtext then (2, 0)
    else if op = wname then (match boundV L s with | none => (0, 6) | some v => (v.t.toNat, 0))
    else if madeT op (c.map (fun t => (tyT L t).1)) = 0 then (0, 190) else (madeT op (c.map (fun t => (tyT L t).1)), 0) := by
  rw [tyT, tyL_good L c h]
  rfl
theorem tyT_bad (L : List Bnd) (op s : Bs) (fn : Nat) (c : List Tree) (j : Nat) (hj : j < c.length) (h : ∀ i (hi : i < c.length), i < j → (tyT L c[i]).2 = 0) (hb : (tyT L c[j]).2 ≠ 0) : tyT L (.mk op fn s c) = (0, (tyT L c[j]).2) := by
  rw [tyT, tyL_bad L c j hj h hb, if_pos hb]
set_option maxRecDepth 100000 in
set_option maxHeartbeats 8000000 in
theorem wtyped (L : List Bnd) (hLL : L.length ≤ 1000000) (vb : Value) : ∀ (n : Nat) (t : Tree), szT t ≤ n → ∀ (A : Nat → Prop) (v : Value) (w : World), szT t ≤ 1000000 → NodeV A w v t → BndV w vb L →
    Calls Tryz.prog 70 #[v, vb] w fun e w' => e = .returned (.tuple #[.int .i64 ((tyT L t).1 : Nat), .int .i64 ((tyT L t).2 : Nat)]) ∧ Below w.heap.size w w' := by
  intro n
  induction n with
  | zero => intro t h; cases t; simp only [szT] at h; omega
  | succ n ih =>
    intro t hn A v w hd hv hbv
    obtain ⟨op, fn, s, l⟩ := t
    have HV := Lib.hid hv
    have HBV := Lib.hid hbv
    obtain ⟨bx, bn, bc, rfl⟩ := hbv.agg
    obtain ⟨x, cap, rfl, hcap, hx, hch⟩ := hv
    have HIH := Lib.hid ih
    have HN := Lib.hid (show szL l ≤ n by simp only [szT] at hn; omega)
    have HD := Lib.hid (show 1 + szL l ≤ 1000000 by simpa only [szT] using hd)
    have HC := Lib.hid hch
    have hll : l.length ≤ 1000000 := by have := len_szL l; have := HD.out; omega
    have HX := Lib.hid hx
    obtain ⟨R, hR⟩ : ∃ R, R = tyT L (.mk op fn s l) := ⟨_, rfl⟩
    rw [← hR]
    have HR := Lib.hid hR
    have HLL := Lib.hid hLL
    obtain ⟨N, hN⟩ : ∃ N, N = l.length := ⟨_, rfl⟩
    rw [← hN] at hll hcap HV ⊢
    have HNL := Lib.hid hN
    obtain ⟨i0, hi, hi0, hi1, hi2⟩ := info_ty
    have HII := Lib.hid (And.intro hi (And.intro hi0 (And.intro hi1 hi2)))
    have HB0 := Lib.hid (((Below.refl w.heap.size w).alloc (Nat.le_refl _) (.cells #[.string (tx op), .float .f64 fn, .string (tx s), .slice x N cap] 119)).alloc (by simp) (.cells #[.int .i64 0, .int .i64 0] 92))
    have HA0 : Hid (NB ((w.alloc (.cells #[.string (tx op), .float .f64 fn, .string (tx s), .slice x N cap] 119)).alloc (.cells #[.int .i64 0, .int .i64 0] 92)) w.heap.size (.agg #[.string (tx op), .float .f64 fn, .string (tx s), .slice x N cap])) := Lib.hid
      ((show NB (w.alloc (.cells #[.string (tx op), .float .f64 fn, .string (tx s), .slice x N cap] 119)) w.heap.size _ from ⟨_, _, _, _, rfl, heap_alloc_new _ _⟩).below ((Below.refl _ _).alloc (Nat.le_refl _) _))
    have HO0 : Hid (((w.alloc (.cells #[.string (tx op), .float .f64 fn, .string (tx s), .slice x N cap] 119)).alloc (.cells #[.int .i64 0, .int .i64 0] 92)).ownsRow (w.heap.size + 1) 92 1 (.slice (some ⟨w.heap.size + 1, 0, none⟩) 0 2) 0 []) := Lib.hid (by
      have := World.ownsRow_made (w.alloc (.cells #[.string (tx op), .float .f64 fn, .string (tx s), .slice x N cap] 119)) (base := w.heap.size + 1) (e := 92) (size := 1) #[.int .i64 0, .int .i64 0] 2 (by simp) (by decide) rfl
      simpa using this)
    clear hN hn hd hch hx ih hR hbv hi hi0 hi1 hi2 hLL
    go_enter Tryz.func70, Tryz.ntmps70
    have hmk : ∀ w : World, (Instr.makeSlice 160 (.int .i64 0) (.int .i64 2)).run Tryz.prog w = .ok (.slice (some ⟨w.heap.size, 0, none⟩) 0 2) (w.alloc (.cells #[.int .i64 0, .int .i64 0] 92)) := fun _ => by kernel_rfl
    go_wp2_with fail
    clear hmk
    generalize ((w.alloc (.cells #[.string (tx op), .float .f64 fn, .string (tx s), .slice x N cap] 119)).alloc (.cells #[.int .i64 0, .int .i64 0] 92)) = W0 at HB0 HA0 HO0 ⊢
    go_loopg [6, 18] N (fun gh kv i wr => ∃ j : Nat, j + gh = N ∧ i = .int .i64 j ∧ Hid (∀ i (hi : i < l.length), i < j → (tyT L l[i]).2 = 0) ∧ Hid (wr.ownsRow (w.heap.size + 1) 92 1 kv j (tysV ((l.take j).map (fun t => (tyT L t).1)))) ∧ Hid (NB wr w.heap.size (.agg #[.string (tx op), .float .f64 fn, .string (tx s), .slice x N cap])) ∧ Hid (Below w.heap.size w wr))
    case atStart => exact ⟨0, by omega, rfl, Lib.hid (fun i _ h => by omega), HO0, HA0, HB0⟩
    case round =>
      obtain ⟨j, hj, rfl, HG, HO, HNB, HB⟩ := hrel
      obtain ⟨p0, p1, p2, p3, _⟩ := HNB.out.cells
      have hbl := HNB.out.lt
      obtain ⟨kx, kc, rfl⟩ := ownsRow_is HO.out
      clear HA0 HO0 HB0
      by_cases q : j < N
      · have hjl : j < l.length := by have := HNL.out; omega
        obtain ⟨a, rfl⟩ : ∃ a, x = some a := by
          cases x with
          | none => have := HX.out rfl; rw [this] at hjl; cases hjl
          | some a => exact ⟨a, rfl⟩
        obtain ⟨v0, v1, v2, v3, e0, e1, e2, e3, hnode⟩ := NodesV.get l 0 (HC.out a rfl).2 j hjl
        rw [Nat.zero_add] at e0 e1 e2 e3
        have hab : a.block < w.heap.size := ((HC.out a rfl).1 (nil_not hjl)).2
        have hs : ∀ k, wr.heap[(a.add k).block]? = w.heap[(a.add k).block]? := fun k => by rw [add_block]; exact HB.out.block _ hab
        have d0 := cell_same (hs _) e0
        have d1 := cell_same (hs _) e1
        have d2 := cell_same (hs _) e2
        have d3 := cell_same (hs _) e3
        rw [add_lit _ _ _ (by decide)] at d1 d2 d3
        clear e0 e1 e2 e3 hs
        obtain ⟨o1, n1, s1, x1, l1, c1, hag⟩ := hnode.agg
        cases hag
        have HNODE := Lib.hid hnode
        clear hnode
        obtain ⟨K1, hK1⟩ : ∃ K, K = (tyT L l[j]).1 := ⟨_, rfl⟩
        obtain ⟨E1, hE1⟩ : ∃ E, E = (tyT L l[j]).2 := ⟨_, rfl⟩
        have HCH : Hid (∀ W, Below w.heap.size w W → Calls Tryz.prog 70 #[.agg #[.string o1, .float .f64 n1, .string s1, .slice x1 l1 c1], .slice bx bn bc] W fun e w' => e = .returned (.tuple #[.int .i64 (K1 : Nat), .int .i64 (E1 : Nat)]) ∧ Below W.heap.size W w') := Lib.hid (fun W hW => by
          have h1 := szL_get l j hjl
          have h2 := HN.out
          have h3 := HD.out
          rw [hK1, hE1]
          exact HIH.out l[j] (by omega) A _ W (by omega) (HNODE.out.below hW) (HBV.out.below hW))
        have HB1 := Lib.hid (HB.out.alloc HB.out.size (.cells #[.string o1, .float .f64 n1, .string s1, .slice x1 l1 c1] 119))
        have HNB1 := Lib.hid (HNB.out.below ((Below.refl _ _).alloc (Nat.le_refl _) (.cells #[.string o1, .float .f64 n1, .string s1, .slice x1 l1 c1] 119)))
        have HO1 := Lib.hid (HO.out.alloc (.cells #[.string o1, .float .f64 n1, .string s1, .slice x1 l1 c1] 119))
        by_cases qe : E1 = 0
        · have HG2 : Hid (∀ i (hi : i < l.length), i < j + 1 → (tyT L l[i]).2 = 0) := Lib.hid (fun i hi hij => by
            by_cases e : i = j
            · subst e; rw [← hE1]; exact qe
            · exact HG.out i hi (by omega))
          have HTS : Hid (tysV ((l.take (j + 1)).map (fun t => (tyT L t).1)) = tysV ((l.take j).map (fun t => (tyT L t).1)) ++ [.int .i64 (K1 : Nat)]) := Lib.hid (by rw [List.take_succ_eq_append_getElem hjl, List.map_append, hK1]; unfold tysV; rw [List.map_append]; rfl)
          subst qe
          have HCH0 : Hid (Calls Tryz.prog 70 #[.agg #[.string o1, .float .f64 n1, .string s1, .slice x1 l1 c1], .slice bx bn bc] (wr.alloc (.cells #[.string o1, .float .f64 n1, .string s1, .slice x1 l1 c1] 119)) fun e w' => e = .returned (.tuple #[.int .i64 (K1 : Nat), .int .i64 0]) ∧ Below (wr.alloc (.cells #[.string o1, .float .f64 n1, .string s1, .slice x1 l1 c1] 119)).heap.size (wr.alloc (.cells #[.string o1, .float .f64 n1, .string s1, .slice x1 l1 c1] 119)) w') := Lib.hid (HCH.out _ HB1.out)
          clear hK1 hE1 HG HCH HNB HB HO HNODE
          go_wp2_with (first | (go_at_call 70; fail))
          refine (HCH0.out).mono ?_
          rintro e w2 ⟨rfl, hb2⟩
          have HB2 := Lib.hid (HB1.out.trans (below_le hb2 HB1.out.size))
          have HNB2 := Lib.hid (HNB1.out.below hb2)
          have HO2 := Lib.hid (row_kept HO1.out (fun k hk => hb2.block k (HO1.out.lt k hk).2))
          have hsz2 := HNB2.out.lt
          clear hb2 HB1 HNB1 HO1 HCH0 d0 d1 d2 d3 p0 p1 p2 p3 hbl
          go_wp2_with (first | (at_builtin; go_loud (refine wpList_append_own _ rfl _ _ 160 rfl (w.heap.size + 1) 92 i0 (.int .i64 0) 1 8 Tryz.underlying160 HII.out.1 HII.out.2.1 HII.out.2.2.1 HII.out.2.2.2 rfl (by decide) _ _ _ rfl (HO2.out.alloc _) ⟨w2.heap.size, 0, none⟩ 1 1 [.int .i64 (K1 : Nat)] rfl rfl (cell_one_new _ _ _) (by simp [Value.oneCell']) (by unfold maxLen; omega) (by omega) (by simp; omega) ?_)))
          intro v' w3 ho1 hg1 _
          have HO3 : Hid (w3.ownsRow (w.heap.size + 1) 92 1 v' (j + 1) (tysV ((l.take (j + 1)).map (fun t => (tyT L t).1)))) := Lib.hid (by rw [HTS.out, List.map_take]; exact ho1)
          have HNB3 := Lib.hid ((HNB2.out.below ((Below.refl w2.heap.size w2).alloc (Nat.le_refl _) (.cells #[.int .i64 (K1 : Nat)] 92))).kept (hg1.block w.heap.size (by simp; omega) (fun e => by have := HO2.out.lt w.heap.size e.symm; omega)))
          have HB3 : Hid (Below w.heap.size w w3) := Lib.hid ((HB2.out.alloc HB2.out.size _).grown hg1 (by have := HB2.out.size; simp; omega) (fun k e => by have := HO2.out.lt k e; omega))
          clear ho1 hg1 HB2 HNB2 HO2
          go_wp2
          go_roundg (gk - 1)
          case measure => omega
          case rel => exact ⟨j + 1, by omega, by go_num, HG2, HO3, HNB3, HB3⟩
        · have HRE : Hid (R = (0, E1)) := Lib.hid (by rw [HR.out, tyT_bad L op s fn l j hjl HG.out (by rw [← hE1]; exact qe), hE1])
          have q1 : ((E1 : Int) == 0) = false := by simpa using (show ¬ ((E1 : Int) = 0) by omega)
          clear hK1 hE1 HG HNB HO HNODE HO1 HNB1
          go_wp2_with (first | (go_at_call 70; fail))
          refine (HCH.out _ HB1.out).mono ?_
          rintro e w2 ⟨rfl, hb2⟩
          have HB2 := Lib.hid (HB1.out.trans (below_le hb2 HB1.out.size))
          clear hb2 d0 d1 d2 d3
          go_wp2
          go_ret2
          exact ⟨by rw [HRE.out]; rfl, HB2.out⟩
      · have e : j = l.length := by have := HNL.out; omega
        have HG2 : Hid (∀ i (hi : i < l.length), (tyT L l[i]).2 = 0) := Lib.hid (fun i hi => HG.out i hi (by omega))
        have HRG := Lib.hid (HR.out.trans (tyT_good L op s fn l HG2.out))
        have HTY : Hid (TyV wr (.slice kx j kc) (l.map (fun t => (tyT L t).1))) := Lib.hid (by
          have h := HO.out
          rw [show l.take j = l by rw [e, List.take_length]] at h
          exact tyV_row (by rw [List.length_map, ← e]; exact h))
        have HSH := Lib.hid (wshaped A _ op s fn l wr (HV.out.below HB.out))
        rw [← HNL.out] at HSH HRG
        have HBN := Lib.hid (fun W h => wbound s (.slice bx bn bc) L HLL.out W h)
        have HMD : Hid (takesT op = some N → ∀ W, Below wr.heap.size wr W → Calls Tryz.prog 86 #[.string (tx op), .slice kx j kc] W fun e w' => e = .returned (.int .i64 (madeT op (l.map (fun t => (tyT L t).1)) : Nat)) ∧ Below W.heap.size W w') := Lib.hid (fun ht W hW => by
          refine wmade op _ _ (by rw [List.length_map]; omega) (fun h => ?_) W ?_
          · rw [List.length_map, ← HNL.out]
            rcases h with h | h
            · rw [h, show takesT weq = some 2 from by decide] at ht; cases ht; rfl
            · rw [h, show takesT wne = some 2 from by decide] at ht; cases ht; rfl
          · obtain ⟨y, yc, hy, h1, h2, h3⟩ := HTY.out
            refine ⟨y, yc, hy, h1, h2, fun a ha i t hi => ?_⟩
            have h4 := h3 a ha i t hi
            exact cell_same (hW.block _ (cell_lt h4)) h4)
        clear HO HG HTY HC HIH HG2 e
        by_cases ht : takesT op = some N
        · have HSH1 : Hid (Calls Tryz.prog 84 #[.agg #[.string (tx op), .float .f64 fn, .string (tx s), .slice x N cap]] wr fun e w' => e = .returned (.bool true) ∧ Below wr.heap.size wr w') := Lib.hid (by have h := HSH.out; rw [decide_eq_true ht] at h; exact h)
          have HMD1 := Lib.hid (HMD.out ht)
          rw [if_neg (fun h => h ht)] at HRG
          clear HMD HSH ht
          go_wp2_with (first | (go_at_call 84; fail))
          refine (HSH1.out).mono ?_
          rintro e w2 ⟨rfl, hb2⟩
          have HW2 := Lib.hid hb2
          have HB2 := Lib.hid (HB.out.trans (below_le hb2 HB.out.size))
          obtain ⟨p0, p1, p2, p3, _⟩ := (HNB.out.below hb2).cells
          have hbl2 := (HNB.out.below hb2).lt
          clear hb2 HSH1 HNB HB
          by_cases o0 : op = wnum
          · have b0 : ((tx op).toList == [110, 117, 109]) = true := by rw [o0]; exact tx_same _
            rw [if_pos o0] at HRG
            clear o0
            generalize tx op = T at *
            go_wp2
            go_ret2
            exact ⟨by rw [HRG.out]; rfl, HB2.out⟩
          · have b0 : ((tx op).toList == [110, 117, 109]) = false := tx_ne o0
            rw [if_neg o0] at HRG
            by_cases o1 : op = wtext
            · have b1 : ((tx op).toList == [116, 101, 120, 116]) = true := by rw [o1]; exact tx_same _
              rw [if_pos o1] at HRG
              clear o0 o1
              generalize tx op = T at *
              go_wp2
              go_ret2
              exact ⟨by rw [HRG.out]; rfl, HB2.out⟩
            · have b1 : ((tx op).toList == [116, 101, 120, 116]) = false := tx_ne o1
              rw [if_neg o1] at HRG
              by_cases o2 : op = wname
              · have b2 : ((tx op).toList == [110, 97, 109, 101]) = true := by rw [o2]; exact tx_same _
                rw [if_pos o2] at HRG
                clear o0 o1 o2 HMD1
                generalize tx op = T at *
                cases hbo : boundV L s with
                | none =>
                  rw [hbo] at HRG HBN
                  clear hbo
                  go_wp2_with (first | (go_at_call 85; fail))
                  refine (HBN.out _ (HBV.out.below HB2.out)).mono ?_
                  rintro e w3 ⟨rfl, hb3⟩
                  have HB3 := Lib.hid (fun c => (HB2.out.trans (below_le hb3 HB2.out.size)).alloc (by have := HB2.out.size; have := hb3.size; omega) c)
                  clear hb3
                  unfold bvV
                  go_wp2
                  go_ret2
                  exact ⟨by rw [HRG.out]; rfl, HB3.out _⟩
                | some vl =>
                  have HT3 := Lib.hid (bound_t hbo)
                  rw [hbo] at HRG HBN
                  clear hbo
                  obtain ⟨vt, vn, vs, vb'⟩ := vl
                  go_wp2_with (first | (go_at_call 85; fail))
                  refine (HBN.out _ (HBV.out.below HB2.out)).mono ?_
                  rintro e w3 ⟨rfl, hb3⟩
                  have HB3 := Lib.hid (fun c => (HB2.out.trans (below_le hb3 HB2.out.size)).alloc (by have := HB2.out.size; have := hb3.size; omega) c)
                  clear hb3
                  unfold bvV
                  go_wp2
                  go_ret2
                  refine ⟨?_, HB3.out _⟩
                  rw [HRG.out]
                  have h3 : vt = 1 ∨ vt = 2 ∨ vt = 3 := HT3.out
                  rcases h3 with rfl | rfl | rfl <;> rfl
              · have b2 : ((tx op).toList == [110, 97, 109, 101]) = false := tx_ne o2
                rw [if_neg o2] at HRG
                obtain ⟨M, hM⟩ : ∃ M, M = madeT op (l.map (fun t => (tyT L t).1)) := ⟨_, rfl⟩
                rw [← hM] at HRG HMD1
                clear o0 o1 o2 hM
                generalize tx op = T at *
                by_cases m0 : M = 0
                · subst m0
                  rw [if_pos rfl] at HRG
                  have HMD2 : Hid (Calls Tryz.prog 86 #[.string T, .slice kx j kc] w2 fun e w' => e = .returned (.int .i64 0) ∧ Below w2.heap.size w2 w') := Lib.hid (HMD1.out _ HW2.out)
                  clear HMD1
                  go_wp2_with (first | (go_at_call 86; fail))
                  refine (HMD2.out).mono ?_
                  rintro e w3 ⟨rfl, hb3⟩
                  have HB3 := Lib.hid (HB2.out.trans (below_le hb3 HB2.out.size))
                  clear hb3
                  go_wp2
                  go_ret2
                  exact ⟨by rw [HRG.out]; rfl, HB3.out⟩
                · rw [if_neg m0] at HRG
                  have m1 : ((M : Int) == 0) = false := by simpa using (show ¬ ((M : Int) = 0) by omega)
                  go_wp2_with (first | (go_at_call 86; fail))
                  refine (HMD1.out _ HW2.out).mono ?_
                  rintro e w3 ⟨rfl, hb3⟩
                  have HB3 := Lib.hid (HB2.out.trans (below_le hb3 HB2.out.size))
                  clear hb3 HMD1
                  go_wp2
                  go_ret2
                  exact ⟨by rw [HRG.out]; rfl, HB3.out⟩
        · have HSH1 : Hid (Calls Tryz.prog 84 #[.agg #[.string (tx op), .float .f64 fn, .string (tx s), .slice x N cap]] wr fun e w' => e = .returned (.bool false) ∧ Below wr.heap.size wr w') := Lib.hid (by have h := HSH.out; rw [decide_eq_false ht] at h; exact h)
          rw [if_pos ht] at HRG
          clear HMD HSH ht
          go_wp2_with (first | (go_at_call 84; fail))
          refine (HSH1.out).mono ?_
          rintro e w2 ⟨rfl, hb2⟩
          have HB2 := Lib.hid (HB.out.trans (below_le hb2 HB.out.size))
          clear hb2
          go_wp2
          go_ret2
          exact ⟨by rw [HRG.out]; rfl, HB2.out⟩
end Go.Proofs.YtdomglkcfecnnaaGreat
/- Walks: TypeOf, Abs; what a tree that has a type is like. -/
namespace Go.Proofs.YtdomglkcfecnnaaGreat
open Go.RowKit Go.Shelf Ieee
attribute [local go_sem] run_store_float
/-- A tree's type where it isn't too deep. -/
def tyP (L : List Bnd) (t : Tree) : Nat × Nat := if 16 < depT t then (0, 190) else tyT L t
set_option maxRecDepth 100000 in
set_option maxHeartbeats 4000000 in
theorem wtypeOf (L : List Bnd) (hLL : L.length ≤ 1000000) (vb : Value) (t : Tree) (A : Nat → Prop) (v : Value) (w : World) (hz : szT t ≤ 1000000) (hv : NodeV A w v t) (hb : BndV w vb L) :
    Calls Tryz.prog 53 #[v, vb] w fun e w' => e = .returned (.tuple #[.int .i64 ((tyP L t).1 : Nat), .int .i64 ((tyP L t).2 : Nat)]) ∧ Below w.heap.size w w' := by
  have HDP := Lib.hid (fun W (h : NodeV A W v t) => wdepth _ t (Nat.le_refl _) A v W hz h)
  have HTY := Lib.hid (fun W (h : NodeV A W v t) (k : BndV W vb L) => wtyped L hLL vb _ t (Nat.le_refl _) A v W hz h k)
  have HDD : Hid (depT t ≤ 1000000) := Lib.hid (by have := dep_sz t; omega)
  have HV := Lib.hid hv
  have HBV := Lib.hid hb
  obtain ⟨o, n, s, x, l, c, rfl⟩ := hv.agg
  obtain ⟨bx, bn, bc, rfl⟩ := hb.agg
  obtain ⟨R, hR⟩ : ∃ R, R = tyP L t := ⟨_, rfl⟩
  rw [← hR]
  unfold tyP at hR
  obtain ⟨T, hT⟩ : ∃ T, T = tyT L t := ⟨_, rfl⟩
  rw [← hT] at hR HTY
  obtain ⟨D, hD⟩ : ∃ D, D = depT t := ⟨_, rfl⟩
  rw [← hD] at hR HDP HDD
  have HR := Lib.hid hR
  have hdd := HDD.out
  have HB0 := Lib.hid (bel1 w (.cells #[.string o, .float .f64 n, .string s, .slice x l c] 119))
  have HNB : Hid (NB (w.alloc (.cells #[.string o, .float .f64 n, .string s, .slice x l c] 119)) w.heap.size (.agg #[.string o, .float .f64 n, .string s, .slice x l c])) := Lib.hid ⟨_, _, _, _, rfl, heap_alloc_new _ _⟩
  clear hv hb hz hR hT hD
  go_enter Tryz.func53, Tryz.ntmps53
  go_wp2_with (first | (go_at_call 69; fail))
  generalize w.alloc (.cells #[.string o, .float .f64 n, .string s, .slice x l c] 119) = W0 at HB0 HNB ⊢
  go_at_call 69
  refine (HDP.out _ (HV.out.below HB0.out)).mono ?_
  rintro e w2 ⟨rfl, hb2⟩
  have HB2 := Lib.hid (HB0.out.trans (below_le hb2 HB0.out.size))
  obtain ⟨p0, p1, p2, p3, _⟩ := (HNB.out.below hb2).cells
  have hlt := (HNB.out.below hb2).lt
  clear hb2 HB0 HNB HDP
  by_cases q : 16 < D
  · have HR2 : Hid (R = (0, 190)) := Lib.hid (by rw [HR.out, if_pos q])
    go_wp2
    go_ret2
    exact ⟨by rw [HR2.out]; rfl, HB2.out⟩
  · have HR2 : Hid (R = T) := Lib.hid (by rw [HR.out, if_neg q])
    obtain ⟨T1, T2⟩ := T
    go_wp2_with (first | (go_at_call 70; fail))
    go_at_call 70
    refine (HTY.out _ (HV.out.below HB2.out) (HBV.out.below HB2.out)).mono ?_
    rintro e w3 ⟨rfl, hb3⟩
    have HB3 := Lib.hid (HB2.out.trans (below_le hb3 HB2.out.size))
    clear hb3
    go_wp2
    go_ret2
    exact ⟨by rw [HR2.out]; rfl, HB3.out⟩
theorem ty_ok {L : List Bnd} {op s : Bs} {fn : Nat} {c : List Tree} (h : (tyT L (.mk op fn s c)).2 = 0) : takesT op = some c.length ∧ (∀ i (hi : i < c.length), (tyT L c[i]).2 = 0) ∧ (op = wname → ∃ v, boundV L s = some v) := by
  rw [tyT] at h
  by_cases q : (tyL L c).2 = 0
  · rw [if_neg (by rw [q]; decide)] at h
    have hg := tyL_all L c q
    by_cases q2 : takesT op = some c.length
    · refine ⟨q2, hg, fun hn => ?_⟩
      rw [if_neg (by rw [q2]; exact fun e => e rfl)] at h
      subst hn
      rw [if_neg (by decide), if_neg (by decide), if_pos rfl] at h
      cases hb : boundV L s with
      | none => rw [hb] at h; cases h
      | some v => exact ⟨v, rfl⟩
    · rw [if_pos q2] at h
      cases h
  · rw [if_pos q] at h
    exact absurd h q
mutual
/-- No text in a tree is longer. -/
def txT (k : Nat) : Tree → Prop
  | .mk _ _ s l => s.length ≤ k ∧ txL k l
def txL (k : Nat) : List Tree → Prop
  | [] => True
  | t :: r => txT k t ∧ txL k r
end
theorem txL_get {k : Nat} : ∀ {l : List Tree}, txL k l → ∀ i (h : i < l.length), txT k l[i]
  | [], _, i, h => by cases h
  | t :: r, hl, 0, _ => hl.1
  | t :: r, hl, i + 1, h => txL_get hl.2 i (by simpa using h)
theorem bound_len {L : List Bnd} {s : Bs} {v : Vl} {k : Nat} (hL : ∀ b ∈ L, b.v.s.length ≤ k) (h : boundV L s = some v) : v.s.length ≤ k := by
  have key : ∀ (L : List Bnd) b, (∀ b ∈ L, b.v.s.length ≤ k) → firstB s L = some b → b.v.s.length ≤ k := fun L => by
    induction L with
    | nil => intro b _ h; cases h
    | cons a r ih =>
      intro b hk h
      unfold firstB at h
      split at h
      · cases h; exact hk _ (by simp)
      · exact ih b (fun b hb => hk b (by simp [hb])) h
  unfold boundV at h
  split at h
  · cases h
  · rename_i b hb
    have := key L b hL hb
    unfold plainV at h
    split at h
    · cases h; simp
    · split at h
      · cases h; exact this
      · split at h
        · cases h; simp
        · cases h
theorem one_s (C : Bs → Nat) (op : Bs) (a : Av) : (oneA C op a).s = [] := by
  unfold oneA
  repeat' (first | rfl | split)
theorem ite_s (c : Prop) [Decidable c] (x y : Av) (hx : x.s = []) (hy : y.s = []) : (if c then x else y).s = [] := by
  split
  · exact hx
  · exact hy
theorem two_s (op : Bs) (a b : Av) : (twoA op a b).s = [] := by
  unfold twoA
  iterate 12 refine ite_s _ _ _ rfl ?_
  rfl
theorem ev_len (C : Bs → Nat) {L : List Bnd} {k : Nat} (hL : ∀ b ∈ L, b.v.s.length ≤ k) {t : Tree} (ht : txT k t) : (evT C L t).s.length ≤ k := by
  obtain ⟨op, n, s, c⟩ := t
  have h1 : s.length ≤ k := ht.1
  have hN : ∀ x, (avN x).s.length ≤ k := fun b => Nat.zero_le k
  rw [evT]
  split
  · exact hN _
  · split
    · exact h1
    · split
      · split
        · rename_i v hv; exact bound_len hL hv
        · exact Nat.zero_le k
      · split
        · rw [one_s]; exact Nat.zero_le k
        · rw [two_s]; exact Nat.zero_le k
        · exact Nat.zero_le k
end Go.Proofs.YtdomglkcfecnnaaGreat
