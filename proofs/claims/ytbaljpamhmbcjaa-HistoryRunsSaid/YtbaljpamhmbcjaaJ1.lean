/- Walk: Find of a made history. -/
import Derived.Test.YtbaljpamhmbcjaaHZ
namespace Go.Proofs.Ytbaljpamhmbcjaa
open Go.RowKit Go.Shelf
attribute [local go_sem] Oper.semAt_some
/-- The library's variable, of which all that is known is that it holds a number. -/
def MaxLn (w : World) : Prop := ∃ m, w.cell? ⟨0, 0, none⟩ = some (.int .i64 m)
theorem MaxLn.lt {w : World} (h : MaxLn w) : 0 < w.heap.size := by
  obtain ⟨m, h⟩ := h
  rcases Nat.eq_zero_or_pos w.heap.size with q | q
  · have : w.heap = #[] := Array.size_eq_zero_iff.1 q
    simp [World.cell?, this] at h
  · exact q
theorem MaxLn.kept {w w' : World} (h : MaxLn w) {n : Nat} (hn : 0 < n) (hb : Below n w w') : MaxLn w' := by
  obtain ⟨m, h⟩ := h
  exact ⟨m, (hb.cell (p := ⟨0, 0, none⟩) hn).trans h⟩
/-- Does a place's line count? -/
def hitB (L : List Bs) (t : Bs) (fr : Int) (i : Nat) : Bool := decide (fr ≤ (i : Int)) && Lib.contains (L.getD i []) t
def findO (L : List Bs) (t : Bs) (fr : Int) : Option Nat := (List.range L.length).find? (hitB L t fr)
theorem findO_some {L : List Bs} {t : Bs} {fr : Int} {i : Nat} (hi : i < L.length) (h : hitB L t fr i = true) (hn : ∀ j, j < i → hitB L t fr j = false) : findO L t fr = some i := by
  unfold findO
  rw [List.find?_range_eq_some]
  exact ⟨h, by simpa using hi, fun j hj => by simp [hn j hj]⟩
theorem findO_none {L : List Bs} {t : Bs} {fr : Int} (hn : ∀ j, j < L.length → hitB L t fr j = false) : findO L t fr = none := by
  unfold findO
  rw [List.find?_range_eq_none]
  intro j hj
  simp [hn j hj]
/-- Find's boxes. -/
structure FB2 (w : World) (T : ByteArray) (fr i : Int) (v : Bool) (W : World) : Prop where
  b4 : Box W w.heap.size 9 (.string T)
  b5 : Box W (w.heap.size + 1) 3 (.int .i64 fr)
  b6 : Box W (w.heap.size + 2) 3 (.int .i64 i)
  b7 : Box W (w.heap.size + 3) 4 (.bool v)
  bel : Below w.heap.size w W
theorem fb2_own {α : Type} (w : World) (T : ByteArray) (fr i : Int) (v : Bool) (B : Nat) (hB : w.heap.size ≤ B) : OwnFrom B (fun (_ : α) W => FB2 w T fr i v W) := fun _ _ _ _ h hg hr => by
  have hk := cells_grown hg (fun r e => (hr r e).2)
  exact ⟨(hk.2 _ _ h.b4 rfl).trans h.b4, (hk.2 _ _ h.b5 rfl).trans h.b5, (hk.2 _ _ h.b6 rfl).trans h.b6, (hk.2 _ _ h.b7 rfl).trans h.b7, h.bel.grown hg h.bel.size (fun k e => by have := (hr k e).1; omega)⟩
theorem FB2.set {w W : World} {T : ByteArray} {fr i : Int} {v : Bool} (h : FB2 w T fr i v W) (i' : Int) (v' : Bool) : FB2 w T fr i' v' ((W.setCell ⟨w.heap.size + 2, 0, none⟩ (.int .i64 i')).setCell ⟨w.heap.size + 3, 0, none⟩ (.bool v')) :=
  ⟨(set_other (by omega)).trans ((set_other (by omega)).trans h.b4), (set_other (by omega)).trans ((set_other (by omega)).trans h.b5), (set_other (by omega)).trans (h.b6.set _), Box.set ((set_other (by omega)).trans h.b7) _, (h.bel.setCell (p := ⟨w.heap.size + 2, 0, none⟩) (show w.heap.size ≤ w.heap.size + 2 by omega) _).setCell (p := ⟨w.heap.size + 3, 0, none⟩) (show w.heap.size ≤ w.heap.size + 3 by omega) _⟩
theorem fb2_end {w W : World} {T : ByteArray} {fr i : Int} {v : Bool} (h : FB2 w T fr i v W) {D : Nat} (hD : w.heap.size + 4 ≤ D) (hK : W.heap[D]? = some (.deferred (some []))) :
    (W.putObj D (.deferred none)).cell? ⟨w.heap.size + 2, 0, none⟩ = some (.int .i64 i) ∧ (W.putObj D (.deferred none)).cell? ⟨w.heap.size + 3, 0, none⟩ = some (.bool v) ∧ Below w.heap.size w (W.putObj D (.deferred none)) :=
  ⟨Box.cell ((World.putObj_heap_other (by omega)).trans h.b6), Box.cell ((World.putObj_heap_other (by omega)).trans h.b7), h.bel.trans (belowK_b (w := w) (Nat.le_refl _) W D _ _ (by omega) hK rfl rfl)⟩
set_option maxRecDepth 100000 in
set_option maxHeartbeats 4000000 in
theorem wHfind (b : Nat) (m : Int) (hm : 0 < m) (L : List Bs) (hL : L.length ≤ 256) (hN : ∀ l ∈ L, l.length ≤ 4000) (k : Wk) (x : Option Addr) (c : Nat) (t : Bs) (fr : Int) (w : World) (h : His w b m L k x c) (hml : MaxLn w) :
    Calls Try.prog 23 #[.pointer (some ⟨b, 0, none⟩), .string (tx t), .int .i64 fr] w fun e w' => e = nxE (findO L t fr) ∧ Below w.heap.size w w' := by
  have HU := Lib.hid h
  have HM := Lib.hid hm
  have HL := Lib.hid (And.intro hL hN)
  have HML := Lib.hid hml
  have h0l := hml.lt
  have HCO := Lib.hid (fun (W : World) (hW : MaxLn W) (i : Nat) => (show Calls Try.prog 39 #[.string (lnT L i), .string (tx t)] W fun e w' => e = .returned (.bool (Lib.contains (L.getD i []) t)) ∧ w' = W from by
    obtain ⟨m0, hm0⟩ := hW
    exact Try.strings_Contains (lnT L i) (tx t) m0 W (by unfold lnT; rw [tx_size]; have := getD_len hN i; omega) hm0))
  obtain ⟨T, hT⟩ : ∃ T, T = tx t := ⟨_, rfl⟩
  rw [← hT] at HCO ⊢
  clear h hm hL hN hml hT
  unfold nxE
  refine (callsIn_wide (n := 6)).1 ?_
  refine callsIn_of_wp_marks Try.func23 rfl trivial ?_ rfl
  simp only [Try.ntmps23, List.size_toArray, List.length_cons, List.length_nil, Nat.reduceAdd, Nat.reduceSub, Array.replicate_succ, Array.replicate_zero, List.push_toArray, List.append_toArray, List.nil_append, List.cons_append]
  gi_wp2_with (first | (refine ⟨trivial, ?_⟩; gi_at_call 30; refine (callsIn_wide.2 (wHAll _ _)).mono ?_; rintro e w1 ⟨rfl, rfl⟩))
  have hb2 : Below w.heap.size w (((((w.alloc (.cells #[.string T] 9)).alloc (.cells #[.int .i64 fr] 3)).alloc (.cells #[.int .i64 0] 3)).alloc (.cells #[.bool false] 4)).alloc (.cells #[.pointer (some ⟨b, 0, none⟩)] 23)) := (((((Below.refl _ _).alloc (Nat.le_refl _) _).alloc (by simp) _).alloc (by simp; omega) _).alloc (by simp; omega) _).alloc (by simp; omega) _
  have h4 : Box ((((w.alloc (.cells #[.string T] 9)).alloc (.cells #[.int .i64 fr] 3)).alloc (.cells #[.int .i64 0] 3)).alloc (.cells #[.bool false] 4)) w.heap.size 9 (.string T) := (heap_alloc_old _ _ (by simp; omega)).trans ((heap_alloc_old _ _ (by simp; omega)).trans ((heap_alloc_old _ _ (by simp)).trans (heap_alloc_new _ _)))
  have h5 : Box ((((w.alloc (.cells #[.string T] 9)).alloc (.cells #[.int .i64 fr] 3)).alloc (.cells #[.int .i64 0] 3)).alloc (.cells #[.bool false] 4)) (w.heap.size + 1) 3 (.int .i64 fr) := by
    refine (heap_alloc_old _ _ (by simp)).trans ((heap_alloc_old _ _ (by simp)).trans ?_)
    have := heap_alloc_new (w.alloc (.cells #[.string T] 9)) (.cells #[.int .i64 fr] 3)
    simpa only [World.size_alloc, Nat.add_assoc] using this
  have h6 : Box ((((w.alloc (.cells #[.string T] 9)).alloc (.cells #[.int .i64 fr] 3)).alloc (.cells #[.int .i64 0] 3)).alloc (.cells #[.bool false] 4)) (w.heap.size + 2) 3 (.int .i64 0) := by
    refine (heap_alloc_old _ _ (by simp)).trans ?_
    have := heap_alloc_new ((w.alloc (.cells #[.string T] 9)).alloc (.cells #[.int .i64 fr] 3)) (.cells #[.int .i64 0] 3)
    simpa only [World.size_alloc, Nat.add_assoc] using this
  have h7 : Box ((((w.alloc (.cells #[.string T] 9)).alloc (.cells #[.int .i64 fr] 3)).alloc (.cells #[.int .i64 0] 3)).alloc (.cells #[.bool false] 4)) (w.heap.size + 3) 4 (.bool false) := by
    have := heap_alloc_new (((w.alloc (.cells #[.string T] 9)).alloc (.cells #[.int .i64 fr] 3)).alloc (.cells #[.int .i64 0] 3)) (.cells #[.bool false] 4)
    unfold Box
    simpa only [World.size_alloc, Nat.add_assoc] using this
  have hsz : (((((w.alloc (.cells #[.string T] 9)).alloc (.cells #[.int .i64 fr] 3)).alloc (.cells #[.int .i64 0] 3)).alloc (.cells #[.bool false] 4)).alloc (.cells #[.pointer (some ⟨b, 0, none⟩)] 23)).heap.size = w.heap.size + 5 := by simp
  have HI : Hid (FB2 w T fr 0 false (((((w.alloc (.cells #[.string T] 9)).alloc (.cells #[.int .i64 fr] 3)).alloc (.cells #[.int .i64 0] 3)).alloc (.cells #[.bool false] 4)).alloc (.cells #[.pointer (some ⟨b, 0, none⟩)] 23))) := Lib.hid ⟨(heap_alloc_old _ _ (by simp; omega)).trans h4, (heap_alloc_old _ _ (by simp)).trans h5, (heap_alloc_old _ _ (by simp)).trans h6, (heap_alloc_old _ _ (by simp)).trans h7, hb2⟩
  have HC : Hid ((((((w.alloc (.cells #[.string T] 9)).alloc (.cells #[.int .i64 fr] 3)).alloc (.cells #[.int .i64 0] 3)).alloc (.cells #[.bool false] 4)).alloc (.cells #[.pointer (some ⟨b, 0, none⟩)] 23)).cell? ⟨w.heap.size + 1 + 1 + 1 + 1, 0, none⟩ = some (.pointer (some ⟨b, 0, none⟩)) ∧ His (((((w.alloc (.cells #[.string T] 9)).alloc (.cells #[.int .i64 fr] 3)).alloc (.cells #[.int .i64 0] 3)).alloc (.cells #[.bool false] 4)).alloc (.cells #[.pointer (some ⟨b, 0, none⟩)] 23)) b m L k x c) := Lib.hid ⟨by simp [go_sem], HU.out.below hb2⟩
  clear hb2 h4 h5 h6 h7
  generalize ((((w.alloc (.cells #[.string T] 9)).alloc (.cells #[.int .i64 fr] 3)).alloc (.cells #[.int .i64 0] 3)).alloc (.cells #[.bool false] 4)).alloc (.cells #[.pointer (some ⟨b, 0, none⟩)] 23) = W0 at HI HC hsz ⊢
  have HSZ := Lib.hid hsz
  clear hsz
  refine wpIn_rangeFunc_ownH rfl (by omega) (gf := 44) (lb := #[.pointer (some ⟨w.heap.size + 1 + 1 + 1 + 1, 0, none⟩)]) (by simp [go_sem]) trivial (enters_of Try.func44 (by kernel_rfl) rfl)
    (hall_stops (bx := w.heap.size + 2) HM.out (by have := HL.out.1; omega) HC.out.2 (by have := HSZ.out; omega) HC.out.1 (by have := HSZ.out; omega) (by unfold ownAt; rw [HI.out.b6.cell]; rfl)) KeepR.trans (keepR_b (by have := HSZ.out; omega)) (Below.refl _ _) (fun _ => rfl)
    (fun (pre : List (Fin L.length)) W => (∀ q, pre.map (·.1) = List.range q → ∀ j, j < q → hitB L t fr j = false) ∧ FB2 w T fr 0 false W)
    (fun ce (pre : List (Fin L.length)) W => ce = .ret ∧ ∃ i : Nat, (∀ q, pre.map (·.1) = List.range q → findO L t fr = some i) ∧ FB2 w T fr (i : Int) true W)
    (fun s A B row h hg hr => ⟨h.1, fb2_own (α := Unit) w T fr 0 false _ HI.out.bel.size () A B row h.2 hg hr⟩)
    (fun ce s A B row ⟨h1, i, h2, h3⟩ hg hr => ⟨h1, i, h2, fb2_own (α := Unit) w T fr _ true _ HI.out.bel.size () A B row h3 hg hr⟩)
    ⟨fun q hq j hj => (by have := congrArg List.length hq; simp at this; omega), HI.out⟩
    (fun y a' _ => a' = { tmps := #[.pointer (some ⟨b, 0, none⟩), .string T, .int .i64 fr, undef, .pointer (some ⟨w.heap.size, 0, none⟩), .pointer (some ⟨w.heap.size + 1, 0, none⟩), .pointer (some ⟨w.heap.size + 1 + 1, 0, none⟩), .pointer (some ⟨w.heap.size + 1 + 1 + 1, 0, none⟩), .int .i64 (y.1 : Nat), .string (lnT L y.1), .pointer (some ⟨b, 0, none⟩), .func (.func 44) #[] #[.pointer (some ⟨w.heap.size + 1 + 1 + 1 + 1, 0, none⟩)], .int .i64 (y.1 : Nat), .string (lnT L y.1), undef, undef, undef, undef, undef, undef, undef, undef, undef], defers := [] })
    (fun _ _ _ _ _ _ h _ _ => h) ?assign ?body ?done ?stop
  case assign =>
    intro l pre x W K hI hK
    unfold fenc lenc
    have H := Lib.hid hK
    clear hK
    gi_wp2
    exact H.out _ _ (keepsFrom_below (Below.refl _ _)) (KeepR.refl _ _) hI rfl
  case body =>
    rintro l pre y a' W hl' _ ⟨hno, hI⟩ rfl hlt
    have c4 := hI.b4.cell
    have c5 := hI.b5.cell
    have c6 := hI.b6.cell
    have c7 := hI.b7.cell
    have f6 := hI.b6.frozen
    have f7 := hI.b7.frozen
    have HII := Lib.hid hI
    have HNO := Lib.hid hno
    have HMW := Lib.hid (HML.out.kept h0l hI.bel)
    have HKF := Lib.hid (fun (u : Int) (v : Bool) => (show KeepsFrom W0.heap.size W ((W.setCell ⟨w.heap.size + 2, 0, none⟩ (.int .i64 u)).setCell ⟨w.heap.size + 3, 0, none⟩ (.bool v)) from (keepsFrom_set _ _ _ (show w.heap.size + 2 < W0.heap.size by have := HSZ.out; omega)).trans (keepsFrom_set _ _ _ (show w.heap.size + 3 < W0.heap.size by have := HSZ.out; omega))))
    have HYL := Lib.hid y.2
    have HCY := Lib.hid (HCO.out W HMW.out y.1)
    obtain ⟨X, hX⟩ : ∃ X, X = lnT L y.1 := ⟨_, rfl⟩
    rw [← hX] at HCY ⊢
    obtain ⟨V, hV⟩ : ∃ V, V = Lib.contains (L.getD y.1 []) t := ⟨_, rfl⟩
    rw [← hV] at HCY
    obtain ⟨yv, hyv⟩ : ∃ yv, yv = y.1 := ⟨_, rfl⟩
    have HYV := Lib.hid hyv
    rw [← hyv] at HYL ⊢
    have HV : Hid (hitB L t fr yv = (decide (fr ≤ (yv : Int)) && V)) := Lib.hid (by rw [hV, hyv]; rfl)
    clear hI hno hlt hX hV hyv
    by_cases hge : fr ≤ (yv : Int)
    · cases V
      · have HE : Hid (∀ q, (pre ++ [y]).map (·.1) = List.range q → ∀ j, j < q → hitB L t fr j = false) := Lib.hid (fun q hq j hj => by
          obtain ⟨q', rfl, h1, h2⟩ := snoc_range hq
          by_cases e : j = q'
          · rw [e, ← h2, ← HYV.out, HV.out]; simp
          · exact HNO.out q' h1 j (by omega))
        gi_wp2_with (first | (refine ⟨trivial, ?_⟩; gi_at_call 39; refine (CallsIn.inRound l (callsIn_wide.2 HCY.out)).mono ?_; rintro e w2 ⟨rfl, rfl⟩))
        exact ⟨keepsFrom_below (Below.refl _ _), KeepR.refl _ _, HE.out, HII.out⟩
      · have HE : Hid (∀ q, (pre ++ [y]).map (·.1) = List.range q → findO L t fr = some yv) := Lib.hid (fun q hq => by
          obtain ⟨q', rfl, h1, h2⟩ := snoc_range hq
          refine findO_some HYL.out (by rw [HV.out, decide_eq_true hge]; rfl) (fun j hj => HNO.out q' h1 j (by have := HYV.out; omega)))
        gi_wp2_with (first | (refine ⟨trivial, ?_⟩; gi_at_call 39; refine (CallsIn.inRound l (callsIn_wide.2 HCY.out)).mono ?_; rintro e w2 ⟨rfl, rfl⟩))
        first | exact ⟨HKF.out _ _, rfl, yv, HE.out, HII.out.set yv true⟩ | trace_state
    · have HE : Hid (∀ q, (pre ++ [y]).map (·.1) = List.range q → ∀ j, j < q → hitB L t fr j = false) := Lib.hid (fun q hq j hj => by
        obtain ⟨q', rfl, h1, h2⟩ := snoc_range hq
        by_cases e : j = q'
        · rw [e, ← h2, ← HYV.out, HV.out, decide_eq_false hge]; rfl
        · exact HNO.out q' h1 j (by omega))
      gi_wp2
      refine ⟨trivial, ?_⟩
      gi_wp2
      exact ⟨keepsFrom_below (Below.refl _ _), KeepR.refl _ _, HE.out, HII.out⟩
  case done =>
    rintro D xs W hD hS ⟨hno, hI⟩ hK
    have HV := Lib.hid (findO_none (L := L) (t := t) (fr := fr) (hno _ hS))
    have HI2 := Lib.hid (hI.set 0 false)
    have c6 := hI.b6.cell
    have c7 := hI.b7.cell
    have f6 := hI.b6.frozen
    have f7 := hI.b7.frozen
    have HD := Lib.hid (show w.heap.size + 4 ≤ D by have := HSZ.out; omega)
    have HK : Hid (((W.setCell ⟨w.heap.size + 2, 0, none⟩ (.int .i64 0)).setCell ⟨w.heap.size + 3, 0, none⟩ (.bool false)).heap[D]? = some (.deferred (some []))) := Lib.hid (((set_other (by have := HD.out; omega)).trans (set_other (by have := HD.out; omega))).trans hK)
    clear hno hI hK hS hD
    gi_wp2
    refine ⟨by simp, .inl ⟨_, _, rfl, run_takeDeferred HK.out, ?_⟩⟩
    obtain ⟨z1, z2, z3⟩ := fb2_end HI2.out HD.out HK.out
    exact ⟨_, results_11 rfl _ _ (w.heap.size + 2) (w.heap.size + 3) _ _ Try.isAgg3 Try.isAgg4 rfl rfl z1 z2, by rw [HV.out]; rfl, z3⟩
  case stop =>
    rintro D ce pre W hD ⟨q, hq1, hq2, hq3⟩ ⟨rfl, i, hv, hI⟩ hK
    have HV := Lib.hid (hv q hq3)
    have HI2 := Lib.hid hI
    have HK := Lib.hid hK
    have HD := Lib.hid (show w.heap.size + 4 ≤ D by have := HSZ.out; omega)
    clear hv hI hK hq1 hq2 hq3
    gi_wp2
    refine ⟨by simp, .inl ⟨_, _, rfl, run_takeDeferred HK.out, ?_⟩⟩
    obtain ⟨z1, z2, z3⟩ := fb2_end HI2.out HD.out HK.out
    exact ⟨_, results_11 rfl _ _ (w.heap.size + 2) (w.heap.size + 3) _ _ Try.isAgg3 Try.isAgg4 rfl rfl z1 z2, by rw [HV.out]; rfl, z3⟩
end Go.Proofs.Ytbaljpamhmbcjaa
