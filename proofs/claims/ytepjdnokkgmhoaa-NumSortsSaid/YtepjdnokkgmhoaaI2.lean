/- Walks: the nearest place. -/
import Derived.Test.YtepjdnokkgmhoaaI1
namespace Go.Proofs.Ytepjdnokkgmhoaa
open Go.RowKit Go.Shelf
attribute [local go_sem] Oper.semAt_some
theorem run_store_float (P : Program) (w : World) (a : Addr) (m : Mode) (k : FloatKind) (b : Nat) : (store a (.float k b) m).run P w = stored P w a (.float k b) m := run_store P w a _ m rfl
attribute [local go_sem] run_store_float
def subB (x v : Nat) : Nat := (Ieee.double.sub x v).getD 0
def distB (x v : Nat) : Nat := rung (subB x v)
def near1 (x : Nat) (st p : Nat × Nat) : Nat × Nat := if ltB (distB x p.2) st.2 then (p.1, distB x p.2) else st
def nearS (x : Nat) (l : List (Nat × Nat)) : Nat × Nat := l.foldl (near1 x) (0, 9218868437227405312)
theorem nearS_snoc (x : Nat) (l : List (Nat × Nat)) (p : Nat × Nat) : nearS x (l ++ [p]) = near1 x (nearS x l) p := by simp [nearS]
theorem subB_eq (x v : Nat) (hx : finB x = true) (hv : isNan v = false) : Ieee.double.sub x v = some (subB x v) ∧ subB x v < 2 ^ 64 := by
  obtain ⟨p, h1, _, h3⟩ := sub_fin x v hx hv
  unfold subB; rw [h1]; exact ⟨rfl, h3⟩
theorem fin_of_sv {x : Nat} {lo hi : Nat} (hl : finB lo = true) (hh : finB hi = true) (h1 : sv lo ≤ sv x) (h2 : sv x ≤ sv hi) : finB x = true := by
  have a1 : valN (rung lo) < valN (2047 * 2 ^ 52) := valN_lt (by simpa [finB] using hl)
  have a2 : valN (rung hi) < valN (2047 * 2 ^ 52) := valN_lt (by simpa [finB] using hh)
  unfold finB
  rw [decide_eq_true_eq]
  rcases Nat.lt_or_ge (rung x) (2047 * 2 ^ 52) with q | q
  · exact q
  · have a3 := valN_le q
    generalize valN (2047 * 2 ^ 52) = U at *
    unfold sv at h1 h2
    cases hx : isNeg x <;> cases hl' : isNeg lo <;> cases hh' : isNeg hi <;> simp only [hx, hl', hh', Bool.false_eq_true, if_false, if_true] at h1 h2 <;> omega
theorem clamp_fin {x lo hi : Nat} (hl : finB lo = true) (hh : finB hi = true) (h : clampE x lo hi = 0) : finB (clampX x lo hi) = true := by
  unfold clampE at h
  cases hb : clampBad x lo hi
  · unfold clampX
    rw [hb]
    simp only [Bool.false_eq_true, if_false]
    simp only [clampBad, Bool.or_eq_false_iff, decide_eq_false_iff_not] at hb
    split
    · exact hl
    · split
      · exact hh
      · exact fin_of_sv hl hh (by omega) (by omega)
  · rw [hb] at h; simp at h
def nearN (lo hi step x : Nat) : Int := if stepsE lo hi step = 0 then (if clampE x lo hi = 0 then ((nearS (clampX x lo hi) (upto lo step (stepsN lo hi step))).1 : Nat) else 0) else 0
def nearE (lo hi step x : Nat) : Int := if stepsE lo hi step = 0 then (if clampE x lo hi = 0 then 0 else 1) else stepsE lo hi step
theorem steps_ok_fin {lo hi step : Nat} (h : stepsE lo hi step = 0) : finB lo = true ∧ finB hi = true ∧ finB step = true := by
  unfold stepsE at h
  cases hb : stepsBad lo hi step
  · simp only [stepsBad, Bool.or_eq_false_iff, Bool.not_eq_false'] at hb
    exact ⟨hb.1, hb.2.1, hb.2.2.1⟩
  · rw [hb] at h; simp at h
set_option maxRecDepth 100000 in
set_option maxHeartbeats 2000000 in
theorem tnear_bad (lo hi step x : Nat) (w : World) (h : stepsE lo hi step ≠ 0) : Calls Try.prog 22 #[.float .f64 lo, .float .f64 hi, .float .f64 step, .float .f64 x] w fun e w' => e = .returned (.tuple #[.int .i64 0, .int .i64 (stepsE lo hi step)]) ∧ Below w.heap.size w w' := by
  have ht : (stepsE lo hi step != 0) = true := by simpa using h
  clear h
  go_enter Try.func22, Try.ntmps22
  go_wp2_with (go_at_call 20; refine (tsteps _ _ _ _).mono ?_; rintro e w' ⟨rfl, rfl⟩)
  go_ret2
  exact ⟨rfl, (Below.refl _ _).alloc (Nat.le_refl _) _⟩
set_option maxRecDepth 100000 in
set_option maxHeartbeats 2000000 in
theorem tnear_nan (lo hi step x : Nat) (w : World) (h : stepsE lo hi step = 0) (hc : clampE x lo hi ≠ 0) : Calls Try.prog 22 #[.float .f64 lo, .float .f64 hi, .float .f64 step, .float .f64 x] w fun e w' => e = .returned (.tuple #[.int .i64 0, .int .i64 1]) ∧ Below w.heap.size w w' := by
  have ht : (clampE x lo hi != 0) = true := by simpa using hc
  have H := Lib.hid h
  clear h hc
  go_enter Try.func22, Try.ntmps22
  go_wp2_with (first | (go_at_call 20; refine (tsteps _ _ _ _).mono ?_; rintro e w' ⟨rfl, rfl⟩; rw [H.out]) | (go_at_call 9; refine (clamp_walk 9 (.inl rfl) _ _ _ _).mono ?_; rintro e w' ⟨rfl, rfl⟩))
  go_ret2
  refine ⟨rfl, ?_⟩
  exact (Below.refl _ _).alloc (Nat.le_refl _) _
/-- The three boxes of the nearest place. -/
def NearI (n x : Nat) (st : Nat × Nat) (W : World) : Prop := W.heap[n]? = some (.cells #[.float .f64 x] 22 (0, 0)) ∧ W.heap[n + 1]? = some (.cells #[.int .i64 ((st.1 : Nat) : Int)] 3 (0, 0)) ∧ W.heap[n + 2]? = some (.cells #[.float .f64 st.2] 22 (0, 0))
theorem keepsFrom_set {B : Nat} (W : World) (a : Addr) (v : Value) (h : a.block < B) : KeepsFrom B W (W.setCell a v) := ⟨by simp, fun k o hk ho _ => by rw [Below.heap_setCell _ _ _ _ (by omega)]; exact ho⟩
theorem keepB_set {n₀ b₀ : Nat} (W : World) (a : Addr) (v : Value) (h : n₀ ≤ a.block) (h2 : a.block < b₀) : KeepB n₀ b₀ W (W.setCell a v) := ⟨(Below.refl _ W).setCell h v, fun j _ => Below.heap_setCell _ _ _ _ (by omega)⟩
theorem nearI_set {n x : Nat} {st : Nat × Nat} {W : World} (h : NearI n x st W) (k d : Nat) : NearI n x (k, d) ((W.setCell ⟨n + 1, 0, none⟩ (.int .i64 ((k : Nat) : Int))).setCell ⟨n + 2, 0, none⟩ (.float .f64 d)) := by
  obtain ⟨h0, h1, h2⟩ := h
  refine ⟨?_, ?_, ?_⟩
  · rw [Below.heap_setCell _ _ _ _ (by simp), Below.heap_setCell _ _ _ _ (by simp)]; exact h0
  · rw [Below.heap_setCell _ _ _ _ (by simp)]; exact one_setCell h1
  · exact one_setCell (by rw [Below.heap_setCell _ _ _ _ (by simp)]; exact h2)
theorem nearI_own (n x B : Nat) {β : Type} (f : β → Nat × Nat) : OwnFrom B (fun (b : β) W => NearI n x (f b) W) := fun _ _ _ _ hs hg hr =>
  ⟨(grownBy_keeps_cells hg (fun r e => (hr r e).2) hs.1 rfl).trans hs.1, (grownBy_keeps_cells hg (fun r e => (hr r e).2) hs.2.1 rfl).trans hs.2.1, (grownBy_keeps_cells hg (fun r e => (hr r e).2) hs.2.2 rfl).trans hs.2.2⟩
theorem six_heap (w : World) (o0 o1 o2 o3 o4 o5 : Obj) : ((((((w.alloc o0).alloc o1).alloc o2).alloc o3).alloc o4).alloc o5).heap[w.heap.size]? = some o0 ∧ ((((((w.alloc o0).alloc o1).alloc o2).alloc o3).alloc o4).alloc o5).heap[w.heap.size + 1]? = some o1 ∧ ((((((w.alloc o0).alloc o1).alloc o2).alloc o3).alloc o4).alloc o5).heap[w.heap.size + 2]? = some o2 := by
  refine ⟨?_, ?_, ?_⟩
  · rw [Below.heap_alloc _ _ _ (by simp <;> omega), Below.heap_alloc _ _ _ (by simp <;> omega), Below.heap_alloc _ _ _ (by simp <;> omega), Below.heap_alloc _ _ _ (by simp <;> omega), Below.heap_alloc _ _ _ (by simp <;> omega)]
    exact World.alloc_heap_new w _
  · rw [Below.heap_alloc _ _ _ (by simp <;> omega), Below.heap_alloc _ _ _ (by simp <;> omega), Below.heap_alloc _ _ _ (by simp <;> omega), Below.heap_alloc _ _ _ (by simp <;> omega)]
    simpa using World.alloc_heap_new (w.alloc o0) o1
  · rw [Below.heap_alloc _ _ _ (by simp <;> omega), Below.heap_alloc _ _ _ (by simp <;> omega), Below.heap_alloc _ _ _ (by simp <;> omega)]
    simpa using World.alloc_heap_new ((w.alloc o0).alloc o1) o2
theorem near_keep {x v : Nat} (st : Nat × Nat) (i : Nat) (h : ltB (distB x v) st.2 = false) : near1 x st (i, v) = st := by simp [near1, h]
theorem near_take {x v : Nat} (st : Nat × Nat) (i : Nat) (h : ltB (distB x v) st.2 = true) : near1 x st (i, v) = (i, rung (subB x v)) := by have h' : ltB (rung (subB x v)) st.2 = true := h; simp [near1, distB, h']
theorem lt_test {a b : Nat} (c : Bool) (h : ltB a b = c) : (FloatKind.f64.format.order a b == some .lt) = c := h
theorem steps_lt (lo hi step : Nat) {i : Nat} (h : i < stepsN lo hi step) : isNan (valB lo step i) = false := by
  obtain ⟨h1, h2, _, h4⟩ := steps_fin (by omega : 0 < stepsN lo hi step)
  exact (valB_eq lo step i h1 h2 (by omega)).2.1
set_option maxRecDepth 100000 in
set_option maxHeartbeats 4000000 in
theorem tnear_good (lo hi step x : Nat) (w : World) (h : stepsE lo hi step = 0) (hc : clampE x lo hi = 0) : Calls Try.prog 22 #[.float .f64 lo, .float .f64 hi, .float .f64 step, .float .f64 x] w fun e w' => e = .returned (.tuple #[.int .i64 ((nearS (clampX x lo hi) (upto lo step (stepsN lo hi step))).1 : Nat), .int .i64 0]) ∧ Below w.heap.size w w' := by
  have H := Lib.hid h
  have HC := Lib.hid hc
  clear h hc
  refine (callsIn_wide (n := 6)).1 ?_
  refine callsIn_of_wp_marks Try.func22 rfl trivial ?_ rfl
  simp only [Try.ntmps22, List.size_toArray, List.length_cons, List.length_nil, Nat.reduceAdd, Nat.reduceSub, Array.replicate_succ, Array.replicate_zero, List.push_toArray, List.append_toArray, List.nil_append, List.cons_append]
  gi_wp2_with (first | (refine ⟨trivial, ?_⟩; gi_at_call 20; refine (callsIn_wide.2 (tsteps _ _ _ _)).mono ?_; rintro e w' ⟨rfl, rfl⟩; rw [H.out]) | (refine ⟨trivial, ?_⟩; gi_at_call 9; refine (callsIn_wide.2 (clamp_walk 9 (.inl rfl) _ _ _ _)).mono ?_; rintro e w' ⟨rfl, rfl⟩; rw [HC.out]) | (refine ⟨trivial, ?_⟩; gi_at_call 45; refine (callsIn_wide.2 (tinf _)).mono ?_; rintro e w' ⟨rfl, rfl⟩) | (refine ⟨trivial, ?_⟩; gi_at_call 46; refine (callsIn_wide.2 (tall _ _ _ _)).mono ?_; rintro e w' ⟨rfl, rfl⟩))
  have hsz : ((((((w.alloc (.cells #[.float .f64 (clampX x lo hi)] 22)).alloc (.cells #[.int .i64 0] 3)).alloc (.cells #[.float .f64 9218868437227405312] 22)).alloc (.cells #[.float .f64 lo] 22)).alloc (.cells #[.float .f64 hi] 22)).alloc (.cells #[.float .f64 step] 22)).heap.size = w.heap.size + 6 := by simp
  have hB6 : Below w.heap.size w ((((((w.alloc (.cells #[.float .f64 (clampX x lo hi)] 22)).alloc (.cells #[.int .i64 0] 3)).alloc (.cells #[.float .f64 9218868437227405312] 22)).alloc (.cells #[.float .f64 lo] 22)).alloc (.cells #[.float .f64 hi] 22)).alloc (.cells #[.float .f64 step] 22)) :=
    ((((((Below.refl _ w).alloc (Nat.le_refl _) _).alloc (by simp) _).alloc (by simp; omega) _).alloc (by simp; omega) _).alloc (by simp; omega) _).alloc (by simp; omega) _
  have FX := Lib.hid (clamp_fin (steps_ok_fin H.out).1 (steps_ok_fin H.out).2.1 HC.out)
  refine wpIn_rangeFunc_ownG rfl (by omega) (gf := 55) (lb := #[.pointer (some ⟨w.heap.size + 1 + 1 + 1, 0, none⟩), .pointer (some ⟨w.heap.size + 1 + 1 + 1 + 1, 0, none⟩), .pointer (some ⟨w.heap.size + 1 + 1 + 1 + 1 + 1, 0, none⟩)]) (by simp [go_sem]) trivial (enters_of Try.func55 (by kernel_rfl) rfl)
    (all_stops w.heap.size (w.heap.size + 3) lo hi step _ (by omega) ⟨by simp [go_sem], by simp [go_sem], by simp [go_sem]⟩) KeepB.trans (keepB_b (by omega) (by omega)) (Below.refl _ _) (fun _ => rfl)
    (fun pre W => NearI w.heap.size (clampX x lo hi) (nearS (clampX x lo hi) (pre.map (place lo step))) W ∧ Below w.heap.size w W)
    (fun _ _ _ => False)
    (OwnFrom.and (nearI_own _ _ _ _) (ownFrom_below (Nat.le_refl _) (by rw [hsz]; omega)))
    (fun _ _ _ _ _ hs _ _ => hs)
    ⟨six_heap _ _ _ _ _ _ _, hB6⟩
    (fun y => { tmps := #[.float .f64 lo, .float .f64 hi, .float .f64 step, .float .f64 x, undef, undef, undef, .pointer (some ⟨w.heap.size, 0, none⟩), .int .i64 0, .int .i64 0, .int .i64 (stepsN lo hi step : Nat), .int .i64 0, .int .i64 0, .pointer (some ⟨w.heap.size + 1, 0, none⟩), .pointer (some ⟨w.heap.size + 1 + 1, 0, none⟩), .int .i64 (y.1 : Nat), .float .f64 (valB lo step y.1), undef,
      .tuple #[.int .i64 (stepsN lo hi step : Nat), .int .i64 0], .float .f64 lo, .float .f64 hi, .float .f64 step, .tuple #[.int .i64 (stepsN lo hi step : Nat), .int .i64 0], .int .i64 (stepsN lo hi step : Nat), .int .i64 0, .int .i64 0, .bool false, undef, .tuple #[.float .f64 (clampX x lo hi), .int .i64 0], .float .f64 x, .float .f64 lo, .float .f64 hi, .tuple #[.float .f64 (clampX x lo hi), .int .i64 0], .float .f64 (clampX x lo hi), .int .i64 0, .int .i64 0, .bool false,
      .float .f64 9218868437227405312, .float .f64 lo, .float .f64 hi, .float .f64 step, .func (.func 55) #[] #[.pointer (some ⟨w.heap.size + 1 + 1 + 1, 0, none⟩), .pointer (some ⟨w.heap.size + 1 + 1 + 1 + 1, 0, none⟩), .pointer (some ⟨w.heap.size + 1 + 1 + 1 + 1 + 1, 0, none⟩)], .int .i64 (y.1 : Nat), .float .f64 (valB lo step y.1), undef, undef, undef, undef, undef, undef, undef, undef, undef, undef], defers := [] }) ?assign ?body ?done ?stop
  case assign =>
    intro l x W K hK
    gi_wp2
    exact hK
  case body =>
    rintro l pre y W ⟨hI, hB⟩ _
    have hI' := Lib.hid hI
    have hB' := Lib.hid hB
    obtain ⟨g1, g2⟩ := subB_eq (clampX x lo hi) (valB lo step y.1) FX.out (steps_lt lo hi step y.2)
    have hsub := fun w' : World => run_float_arith (P := Try.prog) w' .sub 22 .f64 _ _ _ g1
    obtain ⟨h0, h1, h2⟩ := hI
    have c0 := cell_of_one h0
    have c1 := cell_of_one h1
    have c2 := cell_of_one h2
    have f1 := free_of_one h1
    have f2 := free_of_one h2
    have hl1 := lt_of_block h1
    have hl2 := lt_of_block h2
    rw [show w.heap.size + 2 = w.heap.size + 1 + 1 from rfl] at c2 f2 hl2
    obtain ⟨st, hst⟩ : ∃ st, nearS (clampX x lo hi) (pre.map (place lo step)) = st := ⟨_, rfl⟩
    rw [hst] at c1 c2
    cases hlt : ltB (distB (clampX x lo hi) (valB lo step y.1)) st.2
    · have ht := lt_test _ hlt
      unfold distB at ht
      have HG := Lib.hid g2
      have HL := Lib.hid hlt
      have HS := Lib.hid hst
      clear g1 g2 hlt hst h0 h1 h2
      gi_wp2_with (refine ⟨trivial, ?_⟩; gi_at_call 47; refine (callsIn_wide.2 (tabs _ HG.out _)).mono ?_; rintro e w' ⟨rfl, rfl⟩)
      exact ⟨KeepsFrom.refl _ _, KeepB.refl _ _ _, by rw [List.map_append, List.map_singleton, nearS_snoc, HS.out, place, near_keep _ _ HL.out, ← HS.out]; exact hI'.out, hB'.out⟩
    · have ht := lt_test _ hlt
      unfold distB at ht
      have HG := Lib.hid g2
      have HL := Lib.hid hlt
      have HS := Lib.hid hst
      clear g1 g2 hlt hst h0 h1 h2
      gi_wp2_with (refine ⟨trivial, ?_⟩; gi_at_call 47; refine (callsIn_wide.2 (tabs _ HG.out _)).mono ?_; rintro e w' ⟨rfl, rfl⟩)
      exact ⟨(keepsFrom_set _ _ _ (by rw [hsz]; simp)).trans (keepsFrom_set _ _ _ (by rw [hsz]; simp)), (keepB_set _ _ _ (by simp) (by simp)).trans (keepB_set _ _ _ (by simp; omega) (by simp)), by rw [List.map_append, List.map_singleton, nearS_snoc, HS.out, place, near_take _ _ HL.out]; exact nearI_set hI'.out _ _, (hB'.out.setCell (by simp) _).setCell (by simp; omega) _⟩
  case done =>
    rintro D ys W hD hys ⟨hI, hB⟩ hK
    rw [hys] at hI
    have c1 := cell_of_one hI.2.1
    gi_wp2
    refine ⟨by simp, .inl ⟨_, _, rfl, run_takeDeferred hK, ?_⟩⟩
    exact ⟨_, results_tmp2 rfl _ _ _, rfl, hB.trans (belowK_b (w := w) (Nat.le_refl _) W D _ _ (by simp at hD; omega) hK rfl rfl)⟩
  case stop =>
    rintro D c pre W _ _ h _
    exact h.elim
theorem tnear (lo hi step x : Nat) (w : World) : Calls Try.prog 22 #[.float .f64 lo, .float .f64 hi, .float .f64 step, .float .f64 x] w fun e w' => e = .returned (.tuple #[.int .i64 (nearN lo hi step x), .int .i64 (nearE lo hi step x)]) ∧ Below w.heap.size w w' := by
  unfold nearN nearE
  by_cases h : stepsE lo hi step = 0
  · by_cases hc : clampE x lo hi = 0
    · simp only [h, hc, if_true]; exact tnear_good lo hi step x w h hc
    · simp only [h, hc, if_true, if_false]; exact tnear_nan lo hi step x w h hc
  · simp only [h, if_false]; exact tnear_bad lo hi step x w h
end Go.Proofs.Ytepjdnokkgmhoaa
