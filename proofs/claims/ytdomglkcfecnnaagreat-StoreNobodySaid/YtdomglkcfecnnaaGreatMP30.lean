/- Own texts, merged: D7, DD. -/
import Derived.Test.YtdomglkcfecnnaaGreatHB
import Derived.Test.YtdomglkcfecnnaaGreatMP27
import Derived.Test.YtdomglkcfecnnaaGreatMP29
/- Walk: desc: Place. -/
namespace Go.Proofs.YtdomglkcfecnnaaGreat
open Go.RowKit Go.Shelf
attribute [local go_sem] Oper.semAt_some
theorem results_11 {P : Program} {fn : Func} {p q : Tmp} {t u : TypeId} (h : fn.results = #[.cell p t, .cell q u]) (tmps : Array Value) (w : World) (g k : Nat) (v x : Value) (ha : ∀ w, (isAgg t).run P w = .ok false w) (hb : ∀ w, (isAgg u).run P w = .ok false w)
    (hp : tmps.getD p undef = .pointer (some ⟨g, 0, none⟩)) (hq : tmps.getD q undef = .pointer (some ⟨k, 0, none⟩)) (hv : w.cell? ⟨g, 0, none⟩ = some v) (hx : w.cell? ⟨k, 0, none⟩ = some x) :
    (results fn tmps).run P w = .ok (.tuple #[v, x]) w := by
  have hp' : tmps[p]?.getD undef = .pointer (some ⟨g, 0, none⟩) := by simpa using hp
  have hq' : tmps[q]?.getD undef = .pointer (some ⟨k, 0, none⟩) := by simpa using hq
  simp [results, h, hp', hq', asAddr, go_sem, loadVar, hv, hx, ha, hb]
theorem cast_beq (a b : Nat) : ((a : Int) == (b : Int)) = (a == b) := by rw [Bool.eq_iff_iff]; simp only [beq_iff_eq]; omega
/-- Where a number stands. -/
def hitK (lo st x : Nat) (k : Nat) : Bool := keyN (valB lo st k) != keyN x
def FL.pl (F : FL) (x : Nat) : Nat := firstNot (hitK F.lo F.st x) F.sld
def FL.plc (F : FL) (x : Nat) : Nat × Bool := if F.k = 9 ∧ isNan x = false ∧ F.pl x < F.sld then (F.pl x, true) else (0, false)
theorem plc_fl (f : Fld) (xo : Option Addr) (co : Nat) (xl : Option Addr) (cl : Nat) (x : Nat) : (f.fl xo co xl cl).plc x = placeP f x := rfl
theorem snoc_upto {lo st N : Nat} {pre : List (Fin N)} {y : Fin N} {q : Nat} (h : (pre ++ [y]).map (place lo st) = upto lo st q) : ∃ j, q = j + 1 ∧ pre.map (place lo st) = upto lo st j ∧ y.1 = j := by
  have hl := congrArg List.length h
  simp [upto_length] at hl
  subst hl
  rw [upto_succ, List.map_append] at h
  obtain ⟨h1, h2⟩ := List.append_inj' h (by simp)
  exact ⟨pre.length, rfl, h1, by simpa [place] using congrArg (fun l => (l.map (·.1)).getD 0 0) h2⟩
/-- The boxes of Place. -/
structure PB (w : World) (K : Int) (i : Int) (v : Bool) (W : World) : Prop where
  b4 : Box W (w.heap.size + 1) 3 (.int .i64 i)
  b5 : Box W (w.heap.size + 2) 4 (.bool v)
  b6 : Box W (w.heap.size + 3) 110 (.int .u64 K)
  bel : Below w.heap.size w W
theorem pb_own {α : Type} (w : World) (K i : Int) (v : Bool) (B : Nat) (hB : w.heap.size ≤ B) : OwnFrom B (fun (_ : α) W => PB w K i v W) := fun _ _ _ _ h hg hr => by
  have hk := cells_grown hg (fun r e => (hr r e).2)
  exact ⟨(hk.2 _ _ h.b4 rfl).trans h.b4, (hk.2 _ _ h.b5 rfl).trans h.b5, (hk.2 _ _ h.b6 rfl).trans h.b6, h.bel.grown hg h.bel.size (fun k e => by have := (hr k e).1; omega)⟩
theorem PB.set {w W : World} {K i : Int} {v : Bool} (h : PB w K i v W) (i' : Int) (v' : Bool) : PB w K i' v' ((W.setCell ⟨w.heap.size + 1, 0, none⟩ (.int .i64 i')).setCell ⟨w.heap.size + 2, 0, none⟩ (.bool v')) :=
  ⟨(set_other (by omega)).trans (h.b4.set _), Box.set ((set_other (by omega)).trans h.b5) _, (set_other (by omega)).trans ((set_other (by omega)).trans h.b6), (h.bel.setCell (p := ⟨w.heap.size + 1, 0, none⟩) (show w.heap.size ≤ w.heap.size + 1 by omega) _).setCell (p := ⟨w.heap.size + 2, 0, none⟩) (show w.heap.size ≤ w.heap.size + 2 by omega) _⟩
theorem pb_end {w W : World} {K i : Int} {v : Bool} (h : PB w K i v W) {D : Nat} (hD : w.heap.size + 4 ≤ D) (hK : W.heap[D]? = some (.deferred (some []))) :
    (W.putObj D (.deferred none)).cell? ⟨w.heap.size + 1, 0, none⟩ = some (.int .i64 i) ∧ (W.putObj D (.deferred none)).cell? ⟨w.heap.size + 2, 0, none⟩ = some (.bool v) ∧ Below w.heap.size w (W.putObj D (.deferred none)) :=
  ⟨Box.cell ((World.putObj_heap_other (by omega)).trans h.b4), Box.cell ((World.putObj_heap_other (by omega)).trans h.b5), h.bel.trans (belowK_b (w := w) (Nat.le_refl _) W D _ _ (by omega) hK rfl rfl)⟩
theorem keepB_set {n₀ b₀ : Nat} (W : World) (a : Addr) (v : Value) (h : n₀ ≤ a.block) (h2 : a.block < b₀) : KeepB n₀ b₀ W (W.setCell a v) := ⟨(Below.refl _ W).setCell h _, fun j hj => Below.heap_setCell _ _ _ _ (by omega)⟩
theorem keepsFrom_set {B : Nat} (W : World) (a : Addr) (v : Value) (h : a.block < B) : KeepsFrom B W (W.setCell a v) := ⟨by simp, fun k o hk ho _ => by rw [Below.heap_setCell _ _ _ _ (by omega)]; exact ho⟩
theorem boxed_at {W : World} {b c : Nat} {t : TypeId} {v : Value} (h : Box W b t v) (e : b = c) : Box W c t v := e ▸ h
set_option maxRecDepth 100000 in
set_option maxHeartbeats 4000000 in
theorem dPlace_no (F : FL) (x : Nat) (w : World) (h : ¬ (F.k = 9 ∧ isNan x = false)) : Calls Tryz.prog 64 #[F.v, .float .f64 x] w fun e w' => e = .returned (.tuple #[.int .i64 0, .bool false]) ∧ Below w.heap.size w w' := by
  obtain ⟨k, nm, lb, xo, no, co, mn, mx, lo, hi, st, ds, dn, db, xl, nl, cl, df, sh, ck⟩ := F
  have HAL := Lib.hid (fun o1 o2 o3 => (((Below.refl w.heap.size w).alloc (Nat.le_refl _) o1).alloc (by simp) o2).alloc (by simp; omega) o3)
  unfold FL.v FL.a
  simp only at h ⊢
  by_cases h9 : k = 9
  · have hn : isNan x = true := by cases q : isNan x; exact absurd ⟨h9, q⟩ h; rfl
    have ho : (FloatKind.f64.format.order x x != some .eq) = true := by rw [ord_nan hn]; rfl
    subst h9
    clear h hn
    go_enter Tryz.func64, Tryz.ntmps64
    go_wp2
    refine bodyPost_ret (results_11 rfl _ _ (w.heap.size + 1) (w.heap.size + 2) _ _ Tryz.isAgg3 Tryz.isAgg4 rfl rfl (Box.cell (t := 3) ?_) (Box.cell (t := 4) ?_)) rfl ⟨rfl, HAL.out _ _ _⟩
    · exact (heap_alloc_old _ _ (by simp)).trans (boxed_at (heap_alloc_new _ _) (by simp))
    · exact boxed_at (heap_alloc_new _ _) (by simp)
  · have ht : (k != 9) = true := by simpa using h9
    clear h h9
    go_enter Tryz.func64, Tryz.ntmps64
    go_wp2
    refine bodyPost_ret (results_11 rfl _ _ (w.heap.size + 1) (w.heap.size + 2) _ _ Tryz.isAgg3 Tryz.isAgg4 rfl rfl (Box.cell (t := 3) ?_) (Box.cell (t := 4) ?_)) rfl ⟨rfl, HAL.out _ _ _⟩
    · exact (heap_alloc_old _ _ (by simp)).trans (boxed_at (heap_alloc_new _ _) (by simp))
    · exact boxed_at (heap_alloc_new _ _) (by simp)
theorem seven_heap (w : World) (o0 o1 o2 o3 o4 o5 o6 : Obj) : ∀ W, W = (((((((w.alloc o0).alloc o1).alloc o2).alloc o3).alloc o4).alloc o5).alloc o6) →
    W.heap.size = w.heap.size + 7 ∧ W.heap[w.heap.size + 1]? = some o1 ∧ W.heap[w.heap.size + 2]? = some o2 ∧ W.heap[w.heap.size + 3]? = some o3 ∧ W.heap[w.heap.size + 4]? = some o4 ∧ W.heap[w.heap.size + 4 + 1]? = some o5 ∧ W.heap[w.heap.size + 4 + 2]? = some o6 ∧ Below w.heap.size w W := by
  rintro W rfl
  have st : ∀ (A : World) (o p : Obj) (b : Nat), b < A.heap.size → A.heap[b]? = some p → (A.alloc o).heap[b]? = some p := fun A o p b h hp => (heap_alloc_old _ _ h).trans hp
  have nw : ∀ (A : World) (o : Obj) (b : Nat), b = A.heap.size → (A.alloc o).heap[b]? = some o := fun A o b h => by rw [h]; exact heap_alloc_new _ _
  have sz : ∀ (A : World) (o : Obj), (A.alloc o).heap.size = A.heap.size + 1 := fun A o => by simp
  refine ⟨by simp [sz], ?_, ?_, ?_, ?_, ?_, ?_, ?_⟩
  · exact st _ _ _ _ (by simp [sz]) (st _ _ _ _ (by simp [sz]) (st _ _ _ _ (by simp [sz]) (st _ _ _ _ (by simp [sz]) (st _ _ _ _ (by simp [sz]) (nw _ _ _ (by simp [sz]))))))
  · exact st _ _ _ _ (by simp [sz]) (st _ _ _ _ (by simp [sz]) (st _ _ _ _ (by simp [sz]) (st _ _ _ _ (by simp [sz]) (nw _ _ _ (by simp [sz])))))
  · exact st _ _ _ _ (by simp [sz]) (st _ _ _ _ (by simp [sz]) (st _ _ _ _ (by simp [sz]) (nw _ _ _ (by simp [sz]))))
  · exact st _ _ _ _ (by simp [sz]) (st _ _ _ _ (by simp [sz]) (nw _ _ _ (by simp [sz])))
  · exact st _ _ _ _ (by simp [sz]) (nw _ _ _ (by simp [sz]))
  · exact nw _ _ _ (by simp [sz])
  · exact (((((((Below.refl _ _).alloc (Nat.le_refl _) _).alloc (by simp) _).alloc (by simp; omega) _).alloc (by simp; omega) _).alloc (by simp; omega) _).alloc (by simp; omega) _).alloc (by simp; omega) _
theorem plc_none {F : FL} {x : Nat} (h : ∀ j, j < F.sld → hitK F.lo F.st x j = true) : F.plc x = (0, false) := by
  have e : F.pl x = F.sld := firstNot_eq _ _ _ (Nat.le_refl _) h (.inl rfl)
  unfold FL.plc
  rw [if_neg (fun q => by rw [e] at q; exact absurd q.2.2 (by omega))]
theorem plc_some {F : FL} {x i : Nat} (h9 : F.k = 9) (hn : isNan x = false) (hi : i < F.sld) (h : ∀ j, j < i → hitK F.lo F.st x j = true) (hb : hitK F.lo F.st x i = false) : F.plc x = (i, true) := by
  have e : F.pl x = i := firstNot_eq _ _ _ (by omega) h (.inr hb)
  unfold FL.plc
  rw [e, if_pos ⟨h9, hn, hi⟩]
set_option maxRecDepth 100000 in
set_option maxHeartbeats 8000000 in
theorem dPlace_go (F : FL) (x : Nat) (hx : x < 18446744073709551616) (w : World) (h : F.k = 9 ∧ isNan x = false) : Calls Tryz.prog 64 #[F.v, .float .f64 x] w fun e w' => e = .returned (.tuple #[.int .i64 ((F.plc x).1 : Nat), .bool (F.plc x).2]) ∧ Below w.heap.size w w' := by
  have HPN := Lib.hid (plc_none (F := F) (x := x))
  have HPS := Lib.hid (fun i => plc_some (F := F) (x := x) (i := i) h.1 h.2)
  obtain ⟨R, hR⟩ : ∃ R, R = F.plc x := ⟨_, rfl⟩
  rw [← hR] at HPN HPS ⊢
  have hSL : F.sld = stepsN F.lo F.hi F.st := by unfold FL.sld; rw [if_pos h.1]
  rw [hSL] at HPN HPS
  clear hR hSL
  obtain ⟨k, nm, lb, xo, no, co, mn, mx, lo, hi, st, ds, dn, db, xl, nl, cl, df, sh, ck⟩ := F
  unfold FL.v FL.a
  simp only at h HPN HPS ⊢
  obtain ⟨rfl, hn⟩ := h
  have ho : (FloatKind.f64.format.order x x != some .eq) = false := by rw [ord_num hn]; rfl
  have HKX := Lib.hid (fun W => tkey x hx W)
  have HAL := Lib.hid (fun W => tall lo hi st W)
  have HKY : Hid (∀ y : Fin (stepsN lo hi st), ∀ W, Calls Tryz.prog 77 #[.float .f64 (valB lo st y.1)] W fun e w' => e = .returned (.int .u64 (keyN (valB lo st y.1) : Nat)) ∧ W = w') := Lib.hid (fun y W => by
    have hy := y.2
    obtain ⟨h1, h2, _, h4⟩ := steps_fin (show 0 < stepsN lo hi st by omega)
    exact tkey _ (valB_eq lo st y.1 h1 h2 (by omega)).2.2 W)
  have HHK : Hid (∀ j, hitK lo st x j = !((keyN (valB lo st j) : Int) == (keyN x : Int))) := Lib.hid (fun j => by
    unfold hitK bne
    rw [cast_beq])
  obtain ⟨K, hK⟩ : ∃ K, K = keyN x := ⟨_, rfl⟩
  rw [← hK] at HKX HHK
  clear hK hn hx
  refine (callsIn_wide (n := 6)).1 ?_
  refine callsIn_of_wp_marks Tryz.func64 rfl trivial ?_ rfl
  simp only [Tryz.ntmps64, List.size_toArray, List.length_cons, List.length_nil, Nat.reduceAdd, Nat.reduceSub, Array.replicate_succ, Array.replicate_zero, List.push_toArray, List.append_toArray, List.nil_append, List.cons_append]
  gi_wp2_with (first | (refine ⟨trivial, ?_⟩; gi_at_call 77; refine (callsIn_wide.2 (HKX.out _)).mono ?_; rintro e w1 ⟨rfl, rfl⟩) | (refine ⟨trivial, ?_⟩; gi_at_call 78; refine (callsIn_wide.2 (HAL.out _)).mono ?_; rintro e w1 ⟨rfl, rfl⟩))
  obtain ⟨W0, hW0⟩ : ∃ W0, W0 = (((((((w.alloc (.cells #[.int .i64 9, .string nm, .string lb, .slice xo no co, .int .i64 mn, .int .i64 mx, .float .f64 lo, .float .f64 hi, .float .f64 st, .string ds, .int .i64 dn, .bool db, .slice xl nl cl, .float .f64 df, .string sh, .string ck] 66)).alloc (.cells #[.int .i64 0] 3)).alloc (.cells #[.bool false] 4)).alloc (.cells #[.int .u64 (K : Int)] 110)).alloc (.cells #[.float .f64 lo] 60)).alloc (.cells #[.float .f64 hi] 60)).alloc (.cells #[.float .f64 st] 60)) := ⟨_, rfl⟩
  rw [← hW0]
  have HS := Lib.hid (seven_heap _ _ _ _ _ _ _ _ _ hW0)
  have HI : Hid (PB w K 0 false W0) := Lib.hid ⟨HS.out.2.1, HS.out.2.2.1, HS.out.2.2.2.1, HS.out.2.2.2.2.2.2.2⟩
  have HT : Hid (ThreeBoxes W0 (w.heap.size + 4) lo hi st) := Lib.hid ⟨Box.cell HS.out.2.2.2.2.1, Box.cell HS.out.2.2.2.2.2.1, Box.cell HS.out.2.2.2.2.2.2.1⟩
  have HSZ : Hid (W0.heap.size = w.heap.size + 7) := Lib.hid HS.out.1
  clear HS hW0
  refine wpIn_rangeFunc_ownH rfl (by omega) (gf := 93) (lb := #[.pointer (some ⟨w.heap.size + 1 + 1 + 1 + 1, 0, none⟩), .pointer (some ⟨w.heap.size + 1 + 1 + 1 + 1 + 1, 0, none⟩), .pointer (some ⟨w.heap.size + 1 + 1 + 1 + 1 + 1 + 1, 0, none⟩)]) (by simp [go_sem]) trivial (enters_of Tryz.func93 (by kernel_rfl) rfl)
    (all_stops w.heap.size (w.heap.size + 4) lo hi st W0 (by have := HSZ.out; omega) HT.out) KeepB.trans (keepB_b (by have := HSZ.out; omega) (by have := HSZ.out; omega)) (Below.refl _ _) (fun _ => rfl)
    (fun (pre : List (Fin (stepsN lo hi st))) W => (∀ q, pre.map (place lo st) = upto lo st q → ∀ j, j < q → hitK lo st x j = true) ∧ PB w K 0 false W)
    (fun ce (pre : List (Fin (stepsN lo hi st))) W => ce = .ret ∧ ∃ i : Nat, (∀ q, pre.map (place lo st) = upto lo st q → R = (i, true)) ∧ PB w K (i : Int) true W)
    (fun s A B row h hg hr => ⟨h.1, pb_own (α := Unit) w K 0 false _ HI.out.bel.size () A B row h.2 hg hr⟩)
    (fun ce s A B row ⟨h1, i, h2, h3⟩ hg hr => ⟨h1, i, h2, pb_own (α := Unit) w K _ true _ HI.out.bel.size () A B row h3 hg hr⟩)
    ⟨fun q hq j hj => (by have := congrArg List.length hq; simp [upto_length] at this; omega), HI.out⟩
    (fun y a' _ => a' = { tmps := #[.agg #[.int .i64 9, .string nm, .string lb, .slice xo no co, .int .i64 mn, .int .i64 mx, .float .f64 lo, .float .f64 hi, .float .f64 st, .string ds, .int .i64 dn, .bool db, .slice xl nl cl, .float .f64 df, .string sh, .string ck],
      .float .f64 x, .pointer (some ⟨w.heap.size, 0, none⟩), undef, .pointer (some ⟨w.heap.size + 1, 0, none⟩), .pointer (some ⟨w.heap.size + 1 + 1, 0, none⟩), .pointer (some ⟨w.heap.size + 1 + 1 + 1, 0, none⟩), .int .i64 (y.1 : Nat), .float .f64 (valB lo st y.1),
      .pointer (some ⟨w.heap.size, 0, none⟩), .int .i64 9, .bool false, .bool false, .float .f64 x, .float .f64 x, .bool false, .bool false, .float .f64 x, .int .u64 (K : Int), .pointer (some ⟨w.heap.size, 6, none⟩), .float .f64 lo, .pointer (some ⟨w.heap.size, 7, none⟩), .float .f64 hi, .pointer (some ⟨w.heap.size, 8, none⟩), .float .f64 st,
      .func (.func 93) #[] #[.pointer (some ⟨w.heap.size + 1 + 1 + 1 + 1, 0, none⟩), .pointer (some ⟨w.heap.size + 1 + 1 + 1 + 1 + 1, 0, none⟩), .pointer (some ⟨w.heap.size + 1 + 1 + 1 + 1 + 1 + 1, 0, none⟩)], .int .i64 (y.1 : Nat), .float .f64 (valB lo st y.1), undef, undef, undef, undef, undef], defers := [] })
    (fun _ _ _ _ _ _ h _ _ => h) ?assign ?body ?done ?stop
  case assign =>
    intro l pre y W K' hI hK
    have H := Lib.hid hK
    clear hK
    gi_wp2
    exact H.out _ _ (keepsFrom_below (Below.refl _ _)) (KeepB.refl _ _ _) hI rfl
  case body =>
    rintro l pre y a' W hl' _ ⟨hno, hI⟩ rfl hlt
    have c4 := hI.b4.cell
    have c5 := hI.b5.cell
    have c6 := hI.b6.cell
    have f4 := hI.b4.frozen
    have f5 := hI.b5.frozen
    have HII := Lib.hid hI
    have HNO := Lib.hid hno
    have HDR : Hid (PB w K 0 false W.drew) := Lib.hid ⟨hI.b4, hI.b5, hI.b6, hI.bel.drew⟩
    have HKF := Lib.hid (fun (u : Int) (v : Bool) => (show KeepsFrom W0.heap.size W ((W.drew.setCell ⟨w.heap.size + 1, 0, none⟩ (.int .i64 u)).setCell ⟨w.heap.size + 2, 0, none⟩ (.bool v)) from ((keepsFrom_below (Below.refl _ _).drew).trans (keepsFrom_set _ _ _ (show w.heap.size + 1 < W0.heap.size by have := HSZ.out; omega))).trans (keepsFrom_set _ _ _ (show w.heap.size + 2 < W0.heap.size by have := HSZ.out; omega))))
    have HYL := Lib.hid y.2
    have HCY := Lib.hid (HKY.out y)
    have d6 : W.drew.cell? ⟨w.heap.size + 3, 0, none⟩ = some (.int .u64 K) := hI.b6.cell
    have d4 : W.drew.cell? ⟨w.heap.size + 1, 0, none⟩ = some (.int .i64 0) := hI.b4.cell
    have d5 : W.drew.cell? ⟨w.heap.size + 2, 0, none⟩ = some (.bool false) := hI.b5.cell
    have e4 : W.drew.frozen? ⟨w.heap.size + 1, 0, none⟩ = false := hI.b4.frozen
    have e5 : W.drew.frozen? ⟨w.heap.size + 2, 0, none⟩ = false := hI.b5.frozen
    have HHY := Lib.hid (HHK.out y.1)
    obtain ⟨V, hV⟩ : ∃ V, V = valB lo st y.1 := ⟨_, rfl⟩
    rw [← hV] at HCY HHY ⊢
    obtain ⟨KV, hKV⟩ : ∃ KV, KV = keyN V := ⟨_, rfl⟩
    rw [← hKV] at HCY HHY
    obtain ⟨yv, hyv⟩ : ∃ yv, yv = y.1 := ⟨_, rfl⟩
    have HYV := Lib.hid hyv
    rw [← hyv] at HYL HHY ⊢
    clear hI hno hlt hV hKV hyv HKY HHK HAL HKX
    cases ht : ((KV : Int) == (K : Int))
    · have HE : Hid (∀ q, (pre ++ [y]).map (place lo st) = upto lo st q → ∀ j, j < q → hitK lo st x j = true) := Lib.hid (fun q hq j hj => by
        obtain ⟨q', rfl, h1, h2⟩ := snoc_upto hq
        by_cases e : j = q'
        · rw [e, ← h2, ← HYV.out, HHY.out, ht]; rfl
        · exact HNO.out q' h1 j (by omega))
      gi_wp2
      gi_region_with ((refine ⟨trivial, ?_⟩; gi_at_call 77; refine (CallsIn.inRound l (callsIn_wide.2 (HCY.out _))).mono ?_; rintro e w2 ⟨rfl, rfl⟩))
      all_goals
        gi_wp2
        exact ⟨keepsFrom_below (Below.refl _ _).drew, ⟨(Below.refl _ _).drew, fun _ _ => rfl⟩, HE.out, HDR.out⟩
    · have HE : Hid (∀ q, (pre ++ [y]).map (place lo st) = upto lo st q → R = (yv, true)) := Lib.hid (fun q hq => by
        obtain ⟨q', rfl, h1, h2⟩ := snoc_upto hq
        exact HPS.out yv HYL.out (fun j hj => HNO.out q' h1 j (by have := HYV.out; omega)) (by rw [HHY.out, ht]; rfl))
      gi_wp2
      gi_region_with ((refine ⟨trivial, ?_⟩; gi_at_call 77; refine (CallsIn.inRound l (callsIn_wide.2 (HCY.out _))).mono ?_; rintro e w2 ⟨rfl, rfl⟩))
      all_goals
        gi_wp2
        exact ⟨HKF.out _ _, rfl, yv, HE.out, HDR.out.set yv true⟩
  case done =>
    rintro D xs W hD hS ⟨hno, hI⟩ hK
    have HV := Lib.hid (HPN.out (fun j hj => hno _ hS j hj))
    have HI2 := Lib.hid (hI.set 0 false)
    have c4 := hI.b4.cell
    have c5 := hI.b5.cell
    have f4 := hI.b4.frozen
    have f5 := hI.b5.frozen
    have HD := Lib.hid (show w.heap.size + 4 ≤ D by have := HSZ.out; omega)
    have HK : Hid (((W.setCell ⟨w.heap.size + 1, 0, none⟩ (.int .i64 0)).setCell ⟨w.heap.size + 2, 0, none⟩ (.bool false)).heap[D]? = some (.deferred (some []))) := Lib.hid (((set_other (by have := HD.out; omega)).trans (set_other (by have := HD.out; omega))).trans hK)
    clear hno hI hK hS hD
    gi_wp2
    refine ⟨by simp, .inl ⟨_, _, rfl, run_takeDeferred HK.out, ?_⟩⟩
    obtain ⟨z1, z2, z3⟩ := pb_end HI2.out HD.out HK.out
    exact ⟨_, results_11 rfl _ _ (w.heap.size + 1) (w.heap.size + 2) _ _ Tryz.isAgg3 Tryz.isAgg4 rfl rfl z1 z2, by rw [HV.out]; rfl, z3⟩
  case stop =>
    rintro D ce pre W hD ⟨q, hq1, hq2, hq3⟩ ⟨rfl, i, hv, hI⟩ hK
    have HV := Lib.hid (hv q hq3)
    have HI2 := Lib.hid hI
    have HK := Lib.hid hK
    have HD := Lib.hid (show w.heap.size + 4 ≤ D by have := HSZ.out; omega)
    clear hv hI hK hq1 hq2 hq3
    gi_wp2
    refine ⟨by simp, .inl ⟨_, _, rfl, run_takeDeferred HK.out, ?_⟩⟩
    obtain ⟨z1, z2, z3⟩ := pb_end HI2.out HD.out HK.out
    exact ⟨_, results_11 rfl _ _ (w.heap.size + 1) (w.heap.size + 2) _ _ Tryz.isAgg3 Tryz.isAgg4 rfl rfl z1 z2, by rw [HV.out], z3⟩
end Go.Proofs.YtdomglkcfecnnaaGreat
/- Walks: desc: fits. -/
namespace Go.Proofs.YtdomglkcfecnnaaGreat
open Go.RowKit Go.Shelf
theorem dPlace (F : FL) (x : Nat) (hx : x < 18446744073709551616) (w : World) : Calls Tryz.prog 64 #[F.v, .float .f64 x] w fun e w' => e = .returned (.tuple #[.int .i64 ((F.plc x).1 : Nat), .bool (F.plc x).2]) ∧ Below w.heap.size w w' := by
  by_cases h : F.k = 9 ∧ isNan x = false
  · exact dPlace_go F x hx w h
  · have e : F.plc x = (0, false) := by unfold FL.plc; rw [if_neg (fun q => h ⟨q.1, q.2.1⟩)]
    rw [e]
    exact dPlace_no F x w h
/-- A variable of a value. -/
def VLB (W : World) (b : Nat) (s : ByteArray) (n : Int) (t : Bool) (x : Option Addr) (nl c : Nat) (f : Nat) : Prop := W.heap[b]? = some (.cells #[.string s, .int .i64 n, .bool t, .slice x nl c, .float .f64 f] 62 (0, 0))
theorem VLB.lt {W : World} {b : Nat} {s n t x nl c f} (h : VLB W b s n t x nl c f) : b < W.heap.size := (Array.getElem?_eq_some_iff.1 h).1
theorem VLB.below {W W' : World} {b : Nat} {s n t x nl c f} (h : VLB W b s n t x nl c f) (hb : Below W.heap.size W W') : VLB W' b s n t x nl c f := (hb.block b h.lt).trans h
theorem VLB.cells {W : World} {b : Nat} {s n t x nl c f} (h : VLB W b s n t x nl c f) :
    W.cell? ⟨b, 0, none⟩ = some (.string s) ∧ W.cell? ⟨b, 1, none⟩ = some (.int .i64 n) ∧ W.cell? ⟨b, 2, none⟩ = some (.bool t) ∧ W.cell? ⟨b, 3, none⟩ = some (.slice x nl c) ∧ W.cell? ⟨b, 4, none⟩ = some (.float .f64 f) := by
  unfold VLB at h
  refine ⟨?_, ?_, ?_, ?_, ?_⟩ <;> simp [World.cell?, h]
theorem isEmpty_tx (s : Bs) : (tx s).toList.isEmpty = decide (s = []) := by rw [tx_toList, Bool.eq_iff_iff]; simp
set_option maxRecDepth 100000 in
set_option maxHeartbeats 16000000 in
theorem dfits (f : Fld) (xo : Option Addr) (co : Nat) (xl : Option Addr) (cl : Nat) (v : Vle) (x : Option Addr) (c : Nat) (hx : v.f < 18446744073709551616) (hsl : v.s.length ≤ 900000) (hll : v.l.length ≤ 1000000) (hol : f.op.length ≤ 1000000) (w : World) (hi : IntV w (.slice x v.l.length c) v.l) :
    Calls Tryz.prog 45 #[(f.fl xo co xl cl).v, v.v x c] w fun e w' => e = .returned (.bool (fitsP f v)) ∧ Below w.heap.size w w' := by
  have HPL := Lib.hid (fun W => dPlace (f.fl xo co xl cl) v.f hx W)
  rw [plc_fl] at HPL
  obtain ⟨R, hR⟩ : ∃ R, R = fitsP f v := ⟨_, rfl⟩
  rw [← hR]
  unfold fitsP at hR
  generalize placeP f v.f = PL at HPL hR
  obtain ⟨p1, p2⟩ := PL
  have HON := Lib.hid (fun W => donly f.k v x c W)
  have HFL := Lib.hid (fun W => dflat v.s 0 f.mx hsl W)
  have HDA := Lib.hid (fun W => dDate v.s W)
  have HRI := Lib.hid (fun W h => drising v.l f.op.length x c hll W h)
  obtain ⟨k, nm0, lb0, op, mn, mx, lo, hi', st, ⟨ds0, dn, db, dl, df⟩, sh0, ck0⟩ := f
  have HWI := Lib.hid (fun W => dwithin v.n (-999999999999999) 999999999999999 W)
  have HWO := Lib.hid (fun W => dwithin v.n 0 ((op.length : Int) - 1) W)
  unfold Fld.fl at HPL ⊢
  unfold FL.v FL.a at HPL ⊢
  unfold Vle.v dvlV at HON ⊢
  simp only at HPL HON HFL HRI hR hol ⊢
  have HE := Lib.hid (isEmpty_tx v.s)
  generalize tx nm0 = nm at HPL ⊢
  generalize tx lb0 = lb at HPL ⊢
  generalize tx ds0 = ds at HPL ⊢
  generalize tx sh0 = sh at HPL ⊢
  generalize tx ck0 = ck at HPL ⊢
  generalize dl.length = nl at HPL ⊢
  obtain ⟨vs, vn, vb, vl, vf⟩ := v
  simp only at hx hsl hll hi HPL HON HFL HDA HRI HWI HWO HE hR ⊢
  generalize onlyP k ⟨vs, vn, vb, vl, vf⟩ = OB at HON hR
  generalize flatP vs 0 mx = FB at HFL hR
  generalize dateP vs = DB at HDA hR
  generalize risP vl (op.length : Nat) = RB at HRI hR
  generalize decide (-999999999999999 ≤ vn ∧ vn ≤ 999999999999999) = WB at HWI hR
  generalize decide (0 ≤ vn ∧ vn ≤ (op.length : Int) - 1) = WO at HWO hR
  generalize decide (vs = []) = EB at HE hR
  generalize tx vs = s at HON HFL HDA HE ⊢
  generalize op.length = no at HPL HRI HWO hol ⊢
  obtain ⟨B1, hB1⟩ : ∃ W1, W1 = (w.alloc (.cells #[.int .i64 k, .string nm, .string lb, .slice xo no co, .int .i64 mn, .int .i64 mx, .float .f64 lo, .float .f64 hi', .float .f64 st, .string ds, .int .i64 dn, .bool db, .slice xl nl cl, .float .f64 df, .string sh, .string ck] 66)).alloc
    (.cells #[.string s, .int .i64 vn, .bool vb, .slice x vl.length c, .float .f64 vf] 62) := ⟨_, rfl⟩
  have hbl : Below w.heap.size w B1 := by rw [hB1]; exact ((Below.refl _ _).alloc (Nat.le_refl _) _).alloc (by simp) _
  have HFB : Hid (FLB B1 w.heap.size ⟨k, nm, lb, xo, no, co, mn, mx, lo, hi', st, ds, dn, db, xl, nl, cl, df, sh, ck⟩) := Lib.hid (by rw [hB1]; exact (heap_alloc_old _ _ (by simp)).trans (heap_alloc_new _ _))
  have HVB : Hid (VLB B1 (w.heap.size + 1) s vn vb x vl.length c vf) := Lib.hid (by rw [hB1]; exact heap_at (heap_alloc_new _ _) (by simp))
  have HIN := Lib.hid (hi.below hbl)
  have HBL := Lib.hid hbl
  have HR := Lib.hid hR
  clear hbl hi hR hx hsl
  obtain ⟨c0, c1, c2, c3, c4, c5, c6, c7, c8, c9, c10, c11, c12, c13, c14, c15⟩ := HFB.out.cells
  simp only at c0 c1 c2 c3 c4 c5 c6 c7 c8 c9 c10 c11 c12 c13 c14 c15
  obtain ⟨d0, d1, d2, d3, d4⟩ := HVB.out.cells
  have hlt := HFB.out.lt
  have hlv := HVB.out.lt
  go_enter Tryz.func45, Tryz.ntmps45
  go_wp2_with (first | (go_at_call 61; fail))
  rw [← hB1]
  go_at_call 61
  refine (HON.out _).mono ?_
  rintro e w2 ⟨rfl, hb2⟩
  replace HFB := Lib.hid (HFB.out.below hb2)
  replace HVB := Lib.hid (HVB.out.below hb2)
  replace HIN := Lib.hid (HIN.out.below hb2)
  replace HBL := Lib.hid (HBL.out.trans (below_le hb2 HBL.out.size))
  clear hb2 hB1 HON c0 c1 c2 c3 c4 c5 c6 c7 c8 c9 c10 c11 c12 c13 c14 c15 d0 d1 d2 d3 d4 hlt hlv
  obtain ⟨c0, c1, c2, c3, c4, c5, c6, c7, c8, c9, c10, c11, c12, c13, c14, c15⟩ := HFB.out.cells
  simp only at c0 c1 c2 c3 c4 c5 c6 c7 c8 c9 c10 c11 c12 c13 c14 c15
  obtain ⟨d0, d1, d2, d3, d4⟩ := HVB.out.cells
  have hlt := HFB.out.lt
  have hlv := HVB.out.lt
  cases OB
  · have HR2 : Hid (R = false) := Lib.hid (by rw [HR.out]; rfl)
    clear HR HPL HFL HDA HRI HWI HWO HIN HE
    go_wp2
    go_ret
    exact ⟨ret_bool HR2.out.symm, HBL.out⟩
  go_upto_region 3 with (fail)
  have HTR := Lib.hid (fun (w3 : World) (hb : Below w2.heap.size w2 w3) => HBL.out.trans (below_le hb HBL.out.size))
  rcases kind_all k with rfl | rfl | rfl | rfl | rfl | rfl | rfl | rfl | rfl | hk
  case inl =>
    have HR2 : Hid (R = FB) := Lib.hid (by rw [HR.out]; simp)
    clear HR HPL HDA HRI HWI HWO HIN HE
    go_wp2_with (first | (go_at_call 47; refine (HFL.out _).mono ?_; rintro e w3 ⟨rfl, hb3⟩))
    go_ret
    exact ⟨ret_bool HR2.out.symm, HTR.out _ hb3⟩
  case inr.inl =>
    have HR2 : Hid (R = FB) := Lib.hid (by rw [HR.out]; simp)
    clear HR HPL HDA HRI HWI HWO HIN HE
    go_wp2_with (first | (go_at_call 47; refine (HFL.out _).mono ?_; rintro e w3 ⟨rfl, hb3⟩))
    go_ret
    exact ⟨ret_bool HR2.out.symm, HTR.out _ hb3⟩
  case inr.inr.inl =>
    have HR2 : Hid (R = WB) := Lib.hid (by rw [HR.out]; simp)
    clear HR HPL HDA HRI HFL HWO HIN HE
    go_wp2_with (first | (go_at_call 29; refine (HWI.out _).mono ?_; rintro e w3 ⟨rfl, rfl⟩))
    go_ret
    exact ⟨ret_bool HR2.out.symm, HBL.out⟩
  case inr.inr.inr.inl =>
    have HR2 : Hid (R = (EB || DB)) := Lib.hid (by rw [HR.out]; simp)
    clear HR HPL HRI HFL HWO HIN HWI
    have he := HE.out
    cases EB
    · cases DB
      · have HR3 : Hid (R = false) := Lib.hid HR2.out
        clear HR2 HE
        rw [if_neg (by simp)] at HDA
        go_wp2_with (first | (go_at_call 62; refine (HDA.out _).mono ?_; rintro e w3 ⟨rfl, hb3⟩))
        go_ret
        exact ⟨ret_bool HR3.out.symm, HTR.out _ hb3⟩
      · have HR3 : Hid (R = true) := Lib.hid HR2.out
        clear HR2 HE
        rw [if_pos rfl] at HDA
        go_wp2_with (first | (go_at_call 62; refine (HDA.out _).mono ?_; rintro e w3 ⟨rfl, hb3⟩))
        go_ret
        exact ⟨ret_bool HR3.out.symm, HTR.out _ hb3⟩
    · have HR3 : Hid (R = true) := Lib.hid HR2.out
      clear HR2 HE HDA
      go_wp2
      go_ret
      exact ⟨ret_bool HR3.out.symm, HBL.out⟩
  case inr.inr.inr.inr.inl =>
    have HR2 : Hid (R = true) := Lib.hid (by rw [HR.out]; simp)
    clear HR HPL HDA HRI HFL HWO HIN HE HWI
    go_wp2
    go_ret
    exact ⟨ret_bool HR2.out.symm, HBL.out⟩
  case inr.inr.inr.inr.inr.inl =>
    have HR2 : Hid (R = WO) := Lib.hid (by rw [HR.out]; simp)
    clear HR HPL HDA HRI HFL HWI HIN HE
    go_wp2_with (first | (go_at_call 29; refine (HWO.out _).mono ?_; rintro e w3 ⟨rfl, rfl⟩))
    go_ret
    exact ⟨ret_bool HR2.out.symm, HBL.out⟩
  case inr.inr.inr.inr.inr.inr.inl =>
    have HR2 : Hid (R = RB) := Lib.hid (by rw [HR.out]; simp)
    have HRI2 := Lib.hid (HRI.out _ HIN.out)
    clear HR HPL HDA HRI HFL HWI HWO HE
    go_wp2_with (first | (go_at_call 63; refine HRI2.out.mono ?_; rintro e w3 ⟨rfl, hb3⟩))
    go_ret
    exact ⟨ret_bool HR2.out.symm, HTR.out _ hb3⟩
  case inr.inr.inr.inr.inr.inr.inr.inl =>
    have HR2 : Hid (R = WO) := Lib.hid (by rw [HR.out]; simp)
    clear HR HPL HDA HRI HFL HWI HIN HE
    go_wp2_with (first | (go_at_call 29; refine (HWO.out _).mono ?_; rintro e w3 ⟨rfl, rfl⟩))
    go_ret
    exact ⟨ret_bool HR2.out.symm, HBL.out⟩
  case inr.inr.inr.inr.inr.inr.inr.inr.inl =>
    have HR2 : Hid (R = p2) := Lib.hid (by rw [HR.out]; simp)
    clear HR HWO HDA HRI HFL HWI HIN HE
    go_wp2_with (first | (go_at_call 64; refine (HPL.out _).mono ?_; rintro e w3 ⟨rfl, hb3⟩))
    go_ret
    exact ⟨ret_bool HR2.out.symm, HTR.out _ hb3⟩
  case inr.inr.inr.inr.inr.inr.inr.inr.inr =>
    have HR2 : Hid (R = false) := Lib.hid (by obtain ⟨h1, h2, h3, h4, h5, h6, h7, h8, h9⟩ := hk; rw [HR.out]; simp [h1, h2, h3, h4, h5, h6, h7, h8, h9])
    obtain ⟨b1, b2, b3, b4, b5, b6, b7, b8, b9⟩ := no_kind hk
    clear hk HR HPL HWO HDA HRI HFL HWI HIN HE
    go_wp2
    go_ret
    exact ⟨ret_bool HR2.out.symm, HBL.out⟩
end Go.Proofs.YtdomglkcfecnnaaGreat
