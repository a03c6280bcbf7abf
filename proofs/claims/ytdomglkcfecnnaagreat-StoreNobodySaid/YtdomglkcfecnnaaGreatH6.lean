/- Walks: within, and what width says of a rune. -/
import Derived.Test.YtdomglkcfecnnaaGreatH5
namespace Go.Proofs.YtdomglkcfecnnaaGreat
open Go.RowKit Go.Shelf
attribute [local go_sem] Oper.semAt_some
def encP (L : List Int) (x : Fin (L.length / 2)) : Array Value := #[.int .i32 (L.getD (2 * x.1) 0), .int .i32 (L.getD (2 * x.1 + 1) 0)]
theorem pairs_stops {p q : Nat} {L : List Int} {w1 : World} (hL : L.length ≤ 1000) (hp : w1.heap[p]? = some (.cells #[.slice (some ⟨q, 0, none⟩) L.length L.length] 238 (0, 0))) (hq : I32At w1 q L) :
    SeqStopsK Fence.wide 5 Tryz.prog 163 #[.pointer (some ⟨p, 0, none⟩)] (encP L) (KeepP p q) (fun xs => xs.map (·.1) = List.range (L.length / 2)) (fun pre => ∃ k, k ≤ L.length / 2 ∧ 0 < k ∧ pre.map (·.1) = List.range k) (L.length / 2) w1 := fun l J Jx W hW hA _ hY h0 => by
  have hpl : p < w1.heap.size := (Array.getElem?_eq_some_iff.1 hp).1
  refine (pairs_in l p q L hL W ((hW.block p hpl).trans hp) (hq.kept hq.lt hW)
    (fun q W => ∃ fs : List (Fin (L.length / 2)), q = fs.map (·.1) ∧ J fs W) (fun q W => ∃ fs : List (Fin (L.length / 2)), q = fs.map (·.1) ∧ Jx fs W) (fun s A B row ⟨fs, h1, h2⟩ hg hr => ⟨fs, h1, hA fs A B row h2 hg hr⟩) ?_ ⟨[], rfl, h0⟩).mono ?_
  · rintro k W1 ⟨fs, hfs, hJ⟩ hlt
    have hl : fs.length = k := by have := congrArg List.length hfs; simpa using this.symm
    refine (hY fs ⟨k, by omega⟩ W1 hJ (by omega)).mono ?_
    have e : List.range (k + 1) = (fs ++ [(⟨k, by omega⟩ : Fin (L.length / 2))]).map (·.1) := by rw [List.range_succ, hfs]; simp
    rintro e' W' (⟨he, h1, h2⟩ | ⟨he, h1⟩)
    · exact .inl ⟨he, ⟨_, e, h1⟩, h2⟩
    · exact .inr ⟨he, _, e, h1⟩
  · rintro e W' ⟨he, ⟨xs, hx, fs, hf, hJ⟩ | ⟨pre, ⟨k, h1, h2, h3⟩, fs, hf, hJ⟩⟩
    · exact ⟨he, .inl ⟨fs, hf.symm.trans hx, hJ⟩⟩
    · exact ⟨he, .inr ⟨fs, ⟨k, h1, h2, hf.symm.trans h3⟩, hJ⟩⟩
/-- Does a number lie within one of the ranges? -/
def inR (L : List Int) (r : Int) : Bool := (List.range (L.length / 2)).any fun i => decide (L.getD (2 * i) 0 ≤ r ∧ r ≤ L.getD (2 * i + 1) 0)
/-- A row of numbers that do not fall. -/
def Rises (L : List Int) : Prop := ∀ i j, i ≤ j → j < L.length → L.getD i 0 ≤ L.getD j 0
theorem rises_of {L : List Int} (h : (List.range (L.length - 1)).all (fun i => decide (L.getD i 0 ≤ L.getD (i + 1) 0)) = true) : Rises L := by
  intro i j hij hj
  induction j with
  | zero => obtain rfl : i = 0 := by omega
            exact Int.le_refl _
  | succ j ih =>
    by_cases e : i = j + 1
    · subst e; exact Int.le_refl _
    · have h1 := ih (by omega) (by omega)
      have h2 := List.all_eq_true.1 h j (List.mem_range.2 (by omega))
      rw [decide_eq_true_iff] at h2
      exact Int.le_trans h1 h2
set_option maxRecDepth 100000 in
theorem marks_rise : Rises marksL := rises_of (by decide +kernel)
set_option maxRecDepth 100000 in
theorem wides_rise : Rises widesL := rises_of (by decide +kernel)
theorem inR_none {L : List Int} {r : Int} (h : ∀ i, i < L.length / 2 → ¬ (L.getD (2 * i) 0 ≤ r ∧ r ≤ L.getD (2 * i + 1) 0)) : inR L r = false := by
  unfold inR
  rw [List.any_eq_false]
  intro i hi
  rw [decide_eq_true_iff]
  exact h i (List.mem_range.1 hi)
theorem inR_some {L : List Int} {r : Int} (k : Nat) (hk : k < L.length / 2) (h : L.getD (2 * k) 0 ≤ r ∧ r ≤ L.getD (2 * k + 1) 0) : inR L r = true := by
  unfold inR
  rw [List.any_eq_true]
  exact ⟨k, List.mem_range.2 hk, by rw [decide_eq_true_iff]; exact h⟩
/-- So far no range has it, and it lies behind them. -/
def Past (L : List Int) (r : Int) (k : Nat) : Prop := ∀ i, i < k → L.getD (2 * i + 1) 0 < r
theorem past_stop {L : List Int} {r : Int} {k : Nat} (hr : Rises L) (hp : Past L r k) (h : r < L.getD (2 * k) 0) : inR L r = false :=
  inR_none fun i hi h2 => by
    by_cases e : i < k
    · have := hp i e; omega
    · have := hr (2 * k) (2 * i) (by omega) (by omega); omega
theorem past_done {L : List Int} {r : Int} (hp : Past L r (L.length / 2)) : inR L r = false := inR_none fun i hi h2 => by have := hp i hi; omega
theorem past_step {L : List Int} {r : Int} {k : Nat} (hp : Past L r k) (h : ¬ r ≤ L.getD (2 * k + 1) 0) : Past L r (k + 1) := fun i hi => by
  by_cases e : i = k
  · subst e; omega
  · exact hp i (by omega)
/-- What within's round keeps. -/
structure WI (w : World) (r : Int) (v : Bool) (W : World) : Prop where
  br : Box W w.heap.size 21 (.int .i32 r)
  bv : Box W (w.heap.size + 1) 4 (.bool v)
  bel : Below w.heap.size w W
def CellsKept (w w' : World) : Prop := w.heap.size ≤ w'.heap.size ∧ ∀ (j : Nat) (o : Obj), w.heap[j]? = some o → o.isCells = true → w'.heap[j]? = w.heap[j]?
theorem cells_grown {A B : World} {row : Option Nat} (hg : A.grownBy B row) (hr : ∀ r, row = some r → ∃ o : Obj, A.heap[r]? = some o ∧ o.isCells = false) : CellsKept A B :=
  ⟨hg.size, fun _ _ ho hc => grownBy_keeps_cells hg hr ho hc⟩
theorem wi_own {α : Type} (w : World) (r : Int) (v : Bool) (B : Nat) (hB : w.heap.size ≤ B) : OwnFrom B (fun (_ : List α) W => WI w r v W) := fun _ _ _ _ h hg hr => by
  have hk := cells_grown hg (fun r e => (hr r e).2)
  exact ⟨(hk.2 _ _ h.br rfl).trans h.br, (hk.2 _ _ h.bv rfl).trans h.bv, h.bel.grown hg h.bel.size (fun k e => by have := (hr k e).1; omega)⟩
theorem keepsFrom_below {B : Nat} {A C : World} (h : Below A.heap.size A C) : KeepsFrom B A C := ⟨h.size, fun k _ _ ho _ => (h.block k (Array.getElem?_eq_some_iff.1 ho).1).trans ho⟩
theorem results_1 {P : Program} {fn : Func} {p : Tmp} {ty : TypeId} (h : fn.results = #[.cell p ty]) (tmps : Array Value) (w : World) (g : Nat) (v : Value) (ha : ∀ w, (isAgg ty).run P w = .ok false w)
    (hp : tmps.getD p undef = .pointer (some ⟨g, 0, none⟩)) (hv : w.cell? ⟨g, 0, none⟩ = some v) :
    (results fn tmps).run P w = .ok v w := by
  have hp' : tmps[p]?.getD undef = .pointer (some ⟨g, 0, none⟩) := by simpa using hp
  simp [results, h, hp', asAddr, go_sem, loadVar, hv, ha]
theorem WI.freed {w : World} {r : Int} {v : Bool} {W : World} (h : WI w r v W) {D : Nat} {o o' : Obj} (hD : w.heap.size + 2 ≤ D) (hK : W.heap[D]? = some o) (h1 : o.isCells = false) (h2 : o.isWalk = false) :
    (W.putObj D o').cell? ⟨w.heap.size + 1, 0, none⟩ = some (.bool v) ∧ Below w.heap.size w (W.putObj D o') :=
  ⟨Box.cell ((World.putObj_heap_other (by omega)).trans h.bv), h.bel.trans (belowK_b (w := w) (Nat.le_refl _) W D _ _ (by omega) hK h1 h2)⟩
theorem snoc_range {N : Nat} {pre : List (Fin N)} {x : Fin N} {k : Nat} (h : (pre ++ [x]).map (·.1) = List.range k) : ∃ j, k = j + 1 ∧ pre.map (·.1) = List.range j ∧ x.1 = j := by
  have hl := congrArg List.length h
  simp at hl
  subst hl
  rw [List.range_succ, List.map_append] at h
  obtain ⟨h1, h2⟩ := List.append_inj' h (by simp)
  exact ⟨pre.length, rfl, h1, by simpa using h2⟩
theorem WI.set {w : World} {r : Int} {v : Bool} {W : World} (h : WI w r v W) (u : Bool) : WI w r u (W.setCell ⟨w.heap.size + 1, 0, none⟩ (.bool u)) :=
  ⟨(set_other (by omega)).trans h.br, h.bv.set _, h.bel.setCell (p := ⟨w.heap.size + 1, 0, none⟩) (show w.heap.size ≤ w.heap.size + 1 by omega) _⟩
set_option maxRecDepth 100000 in
set_option maxHeartbeats 4000000 in
theorem wwithin (r : Int) (p q : Nat) (L : List Int) (w : World) (hL : L.length ≤ 1000) (hr : Rises L) (hp : w.heap[p]? = some (.cells #[.slice (some ⟨q, 0, none⟩) L.length L.length] 238 (0, 0))) (hq : I32At w q L) :
    Calls Tryz.prog 154 #[.int .i32 r, .func (.func 163) #[] #[.pointer (some ⟨p, 0, none⟩)]] w fun e w' => e = .returned (.bool (inR L r)) ∧ Below w.heap.size w w' := by
  have HR := Lib.hid hr
  have HL := Lib.hid hL
  have hpl : p < w.heap.size := (Array.getElem?_eq_some_iff.1 hp).1
  have hql := hq.lt
  refine (callsIn_wide (n := 6)).1 ?_
  refine callsIn_of_wp_marks Tryz.func154 rfl trivial ?_ rfl
  simp only [Tryz.ntmps154, List.size_toArray, List.length_cons, List.length_nil, Nat.reduceAdd, Nat.reduceSub, Array.replicate_succ, Array.replicate_zero, List.push_toArray, List.append_toArray, List.nil_append, List.cons_append]
  gi_wp2
  have hb2 : Below w.heap.size w ((w.alloc (.cells #[.int .i32 r] 21)).alloc (.cells #[.bool false] 4)) := ((Below.refl _ _).alloc (Nat.le_refl _) _).alloc (by simp) _
  have hwi : WI w r false ((w.alloc (.cells #[.int .i32 r] 21)).alloc (.cells #[.bool false] 4)) := ⟨(heap_alloc_old _ _ (by simp)).trans (heap_alloc_new _ _), (show ((w.alloc (.cells #[.int .i32 r] 21)).alloc (.cells #[.bool false] 4)).heap[w.heap.size + 1]? = _ from by have := heap_alloc_new (w.alloc (.cells #[.int .i32 r] 21)) (.cells #[.bool false] 4); simpa using this), hb2⟩
  have hpw : ((w.alloc (.cells #[.int .i32 r] 21)).alloc (.cells #[.bool false] 4)).heap[p]? = some (.cells #[.slice (some ⟨q, 0, none⟩) L.length L.length] 238 (0, 0)) := (hb2.block p hpl).trans hp
  have hqw : I32At ((w.alloc (.cells #[.int .i32 r] 21)).alloc (.cells #[.bool false] 4)) q L := hq.kept hql hb2
  have hsz : ((w.alloc (.cells #[.int .i32 r] 21)).alloc (.cells #[.bool false] 4)).heap.size = w.heap.size + 2 := by simp
  generalize (w.alloc (.cells #[.int .i32 r] 21)).alloc (.cells #[.bool false] 4) = W0 at hb2 hwi hpw hqw hsz ⊢
  have HSZ := Lib.hid hsz
  clear hp hq hb2
  refine wpIn_rangeFunc_ownH rfl (by omega) (gf := 163) (lb := #[.pointer (some ⟨p, 0, none⟩)]) (by simp [go_sem]) trivial (enters_of Tryz.func163 (by kernel_rfl) rfl)
    (pairs_stops hL hpw hqw) KeepP.trans (keepP_b (by omega) (by omega)) (Below.refl _ _) (fun _ => rfl)
    (fun pre W => (∀ k, pre.map (·.1) = List.range k → Past L r k) ∧ WI w r false W)
    (fun c pre W => c = .ret ∧ ∃ v, (∀ k, pre.map (·.1) = List.range k → v = inR L r) ∧ WI w r v W)
    (fun s A B row h hg hr => ⟨h.1, wi_own w r false _ (by omega) s A B row h.2 hg hr⟩)
    (fun c s A B row ⟨h1, v, h2, h3⟩ hg hr => ⟨h1, v, h2, wi_own w r _ _ (by omega) s A B row h3 hg hr⟩)
    ⟨fun k hk => (by have := congrArg List.length hk; simp at this; subst this; intro i hi; omega), hwi⟩
    (fun x a' _ => a' = { tmps := #[.int .i32 r, .func (.func 163) #[] #[.pointer (some ⟨p, 0, none⟩)], .pointer (some ⟨w.heap.size, 0, none⟩), undef, .pointer (some ⟨w.heap.size + 1, 0, none⟩), .int .i32 (L.getD (2 * x.1) 0), .int .i32 (L.getD (2 * x.1 + 1) 0), .func (.func 163) #[] #[.pointer (some ⟨p, 0, none⟩)], .int .i32 (L.getD (2 * x.1) 0), .int .i32 (L.getD (2 * x.1 + 1) 0), undef, undef, undef, undef, undef, undef], defers := [] })
    (fun _ _ _ _ _ _ h _ _ => h) ?assign ?body ?done ?stop
  case assign =>
    intro l pre x W K hI hK
    unfold encP
    have H := Lib.hid hK
    clear hK
    gi_wp2
    exact H.out _ _ (keepsFrom_below (Below.refl _ _)) (KeepP.refl _ _ _) hI rfl
  case body =>
    rintro l pre x a' W hl ⟨rr, hrr⟩ ⟨hpast, hI⟩ rfl hlt
    have HI := Lib.hid hI
    have HP := Lib.hid hpast
    have HX := Lib.hid x.2
    have c1 := hI.br.cell
    have c2 := hI.bv.cell
    have f2 := hI.bv.frozen
    have HN1 := Lib.hid (hI.set true)
    have HN2 := Lib.hid (hI.set false)
    have hpz : p ≠ w.heap.size + 1 := by omega
    have hqz : q ≠ w.heap.size + 1 := by omega
    have HKQ := Lib.hid (fun u : Bool => (show KeepP p q W (W.setCell ⟨w.heap.size + 1, 0, none⟩ (.bool u)) from ⟨by simp, set_other hpz, set_other hqz⟩))
    have HKF := Lib.hid (fun u : Bool => (show KeepsFrom W0.heap.size W (W.setCell ⟨w.heap.size + 1, 0, none⟩ (.bool u)) from ⟨by simp, fun k o hk ho _ => (set_other (by have := HSZ.out; omega)).trans ho⟩))
    clear hI hpast hrr hlt hsz hpz hqz
    obtain ⟨A, hA⟩ : ∃ A, A = L.getD (2 * x.1) 0 := ⟨_, rfl⟩
    obtain ⟨B, hB⟩ : ∃ A, A = L.getD (2 * x.1 + 1) 0 := ⟨_, rfl⟩
    have HA := Lib.hid hA
    have HB := Lib.hid hB
    rw [← hA, ← hB]
    clear hA hB
    by_cases h1 : r < A
    · have HE : Hid (∀ k, (pre ++ [x]).map (·.1) = List.range k → false = inR L r) := Lib.hid (fun k hk => by
        obtain ⟨j, _, hj, hx⟩ := snoc_range hk
        exact (past_stop (k := j) HR.out (HP.out j hj) (by rw [← hx, ← HA.out]; exact h1)).symm)
      gi_wp2
      first | exact ⟨HKF.out _, rfl, false, HE.out, HN2.out⟩ | exact ⟨HKF.out _, rfl, .inl ⟨fun k hk => (HE.out k hk).symm, HN2.out⟩⟩
    · by_cases h2 : r ≤ B
      · have HE : Hid (∀ k, (pre ++ [x]).map (·.1) = List.range k → true = inR L r) := Lib.hid (fun k hk => by
          obtain ⟨j, _, hj, hx⟩ := snoc_range hk
          have hxl := HX.out
          exact (inR_some j (by omega) (by rw [← hx, ← HA.out, ← HB.out]; omega)).symm)
        gi_wp2
        first | exact ⟨HKF.out _, rfl, true, HE.out, HN1.out⟩ | exact ⟨HKF.out _, rfl, .inr ⟨fun k hk => (HE.out k hk).symm, HN1.out⟩⟩
      · have HE : Hid (∀ k, (pre ++ [x]).map (·.1) = List.range k → Past L r k) := Lib.hid (fun k hk => by
          obtain ⟨j, rfl, hj, hx⟩ := snoc_range hk
          exact past_step (HP.out j hj) (by rw [← hx, ← HB.out]; exact h2))
        gi_wp2
        exact ⟨keepsFrom_below (Below.refl _ _), KeepP.refl _ _ _, HE.out, HI.out⟩
  case done =>
    rintro D xs W hD hS ⟨hpast, hI⟩ hK
    have HV := Lib.hid (past_done (hpast _ hS))
    have HI := Lib.hid (hI.set false)
    have c2 := hI.bv.cell
    have f2 := hI.bv.frozen
    have HK : Hid ((W.setCell ⟨w.heap.size + 1, 0, none⟩ (.bool false)).heap[D]? = some (.deferred (some []))) := Lib.hid ((set_other (by omega)).trans hK)
    have HD := Lib.hid (show w.heap.size + 2 ≤ D by omega)
    clear hpast hI hK hS hD hsz
    gi_wp2
    refine ⟨by simp, .inl ⟨_, _, rfl, run_takeDeferred HK.out, ?_⟩⟩
    obtain ⟨z1, z2⟩ := HI.out.freed HD.out HK.out (o' := .deferred none) rfl rfl
    exact ⟨_, results_1 rfl _ _ (w.heap.size + 1) _ Tryz.isAgg4 rfl z1, by rw [HV.out], z2⟩
  case stop =>
    rintro D c pre W hD ⟨k, hk1, hk2, hk3⟩ ⟨rfl, v, hv, hI⟩ hK
    have HV := Lib.hid (hv k hk3)
    have HI := Lib.hid hI
    have c2 := hI.bv.cell
    have HK := Lib.hid hK
    have HD := Lib.hid (show w.heap.size + 2 ≤ D by omega)
    clear hv hI hK hk1 hk2 hk3 hsz
    gi_wp2
    refine ⟨by simp, .inl ⟨_, _, rfl, run_takeDeferred HK.out, ?_⟩⟩
    obtain ⟨z1, z2⟩ := HI.out.freed HD.out HK.out (o' := .deferred none) rfl rfl
    exact ⟨_, results_1 rfl _ _ (w.heap.size + 1) _ Tryz.isAgg4 rfl z1, by rw [HV.out], z2⟩
end Go.Proofs.YtdomglkcfecnnaaGreat
