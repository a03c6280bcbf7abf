/- Walk: Print of the program. -/
import Derived.Test.YtlhfdpeidlbomaaDoorTJ
namespace Go.Proofs.YtlhfdpeidlbomaaDoor
open Go.RowKit Go.Shelf
attribute [local go_sem] Oper.semAt_some
def styA (y : Sty) : Value := .agg #[.bool y.b, .bool y.u, .bool y.i, .int .i64 y.f, .int .i64 y.g]
def encY (ys : List Sty) (x : Fin 10) : Array Value := #[.string (tx (prt x.1)), .agg #[.bool (nthY ys x.1).b, .bool (nthY ys x.1).u, .bool (nthY ys x.1).i, .int .i64 (nthY ys x.1).f, .int .i64 (nthY ys x.1).g]]
theorem all_stops {bt Bn : Nat} {ys : List Sty} {w1 : World} (hc : w1.cell? ⟨Bn, 0, none⟩ = some (.pointer (some ⟨bt, 0, none⟩))) (hBn : Bn < w1.heap.size) (hT : ThAt w1 bt ys) :
    SeqStopsK Fence.wide 5 Tryd.prog 46 #[.pointer (some ⟨Bn, 0, none⟩)] (encY ys) (KeepT bt Bn) (fun xs => xs.map (·.1) = List.range 10) (fun pre => ∃ k, k ≤ 10 ∧ 0 < k ∧ pre.map (·.1) = List.range k) 10 w1 := fun l J Jx W hW hA _ hY h0 => by
  refine (iter_in l bt Bn ys W ((hW.cell (p := ⟨Bn, 0, none⟩) hBn).trans hc) (by have := hW.size; omega) (hT.kept hT.lt hW)
    (fun q W => ∃ fs : List (Fin 10), q = fs.map (·.1) ∧ J fs W) (fun q W => ∃ fs : List (Fin 10), q = fs.map (·.1) ∧ Jx fs W) (fun s A B row ⟨fs, h1, h2⟩ hg hr => ⟨fs, h1, hA fs A B row h2 hg hr⟩) ?_ ⟨[], rfl, h0⟩).mono ?_
  · rintro k W1 ⟨fs, hfs, hJ⟩ hlt
    have hl : fs.length = k := by have := congrArg List.length hfs; simpa using this.symm
    refine (hY fs ⟨k, hlt⟩ W1 hJ (by omega)).mono ?_
    have e : List.range (k + 1) = (fs ++ [(⟨k, hlt⟩ : Fin 10)]).map (·.1) := by rw [List.range_succ, hfs]; simp
    rintro e' W' (⟨he, h1, h2⟩ | ⟨he, h1⟩)
    · exact .inl ⟨he, ⟨_, e, h1⟩, h2⟩
    · exact .inr ⟨he, _, e, h1⟩
  · rintro e W' ⟨he, ⟨xs, hx, fs, hf, hJ⟩ | ⟨pre, ⟨k, h1, h2, h3⟩, fs, hf, hJ⟩⟩
    · exact ⟨he, .inl ⟨fs, hf.symm.trans hx, hJ⟩⟩
    · exact ⟨he, .inr ⟨fs, ⟨k, h1, h2, hf.symm.trans h3⟩, hJ⟩⟩
/-- A part's line. -/
def lnOf (ys : List Sty) (k : Nat) : Bs := prt k ++ ([32] ++ (wB (nthY ys k) ++ [10]))
def prL (ys : List Sty) (ks : List Nat) : Bs := ks.flatMap (lnOf ys)
def printB (ys : List Sty) : Bs := prL ys (List.range 10)
theorem prL_snoc (ys : List Sty) (ks : List Nat) (k : Nat) : prL ys (ks ++ [k]) = prL ys ks ++ lnOf ys k := by simp [prL]
theorem lnOf_len (ys : List Sty) (k : Nat) : (lnOf ys k).length ≤ 117 := by
  have h1 := prt_len k
  have h2 := wB_len (nthY ys k)
  unfold lnOf
  simp only [List.length_append, List.length_cons, List.length_nil]
  omega
theorem prL_len (ys : List Sty) (ks : List Nat) : (prL ys ks).length ≤ 117 * ks.length := by
  induction ks with
  | nil => simp [prL]
  | cons k ks ih =>
    have := lnOf_len ys k
    have e : prL ys (k :: ks) = lnOf ys k ++ prL ys ks := by simp [prL]
    rw [e]
    simp only [List.length_append, List.length_cons]
    omega
/-- What Print's round keeps. -/
structure PI (w : World) (bt : Nat) (ys : List Sty) (l : Bs) (W : World) : Prop where
  bld : Bld W w.heap.size (w.heap.size + 2) (Lib.byteCells l)
  th : ThAt W bt ys
  bel : Below w.heap.size w W
  size : w.heap.size + 2 ≤ W.heap.size
theorem cells_grown {A B : World} {row : Option Nat} (hg : A.grownBy B row) (hr : ∀ r, row = some r → ∃ o : Obj, A.heap[r]? = some o ∧ o.isCells = false) : CellsKept A B :=
  ⟨hg.size, fun _ _ ho hc => grownBy_keeps_cells hg hr ho hc⟩
theorem ThAt.keptC {A B : World} {bt : Nat} {ys : List Sty} (h : ThAt A bt ys) (hk : CellsKept A B) : ThAt B bt ys := ⟨(hk.2 bt _ h.blk rfl).trans h.blk, h.len⟩
theorem pi_own (w : World) (bt : Nat) (ys : List Sty) (B : Nat) (hB : w.heap.size ≤ B) : OwnFrom B (fun (pre : List (Fin 10)) W => PI w bt ys (prL ys (pre.map (·.1))) W) := fun _ _ _ _ h hg hr => by
  have hk := cells_grown hg (fun r e => (hr r e).2)
  exact ⟨h.bld.keptC hk, h.th.keptC hk, h.bel.grown hg h.bel.size (fun k e => by have := (hr k e).1; omega), Nat.le_trans h.size hg.size⟩
theorem PI.kept {w : World} {bt : Nat} {ys : List Sty} {l : Bs} {W W' : World} (h : PI w bt ys l W) (hb : Below W.heap.size W W') : PI w bt ys l W' :=
  ⟨h.bld.kept hb, h.th.kept h.th.lt hb, h.bel.trans (below_le hb h.bel.size), Nat.le_trans h.size hb.size⟩
theorem PI.write {w : World} {bt : Nat} {ys : List Sty} {l : Bs} {W : World} (h : PI w bt ys l W) (hbt : bt < w.heap.size) (t : Bs) (hl : l.length + t.length ≤ 1000000) :
    Calls Tryd.prog 35 #[.pointer (some ⟨w.heap.size, 0, none⟩), .string (tx t)] W fun e W' => e = .returned (.tuple #[.int .i64 (tx t).size, .nilIface]) ∧ PI w bt ys (l ++ t) W' ∧ Stay w.heap.size (w.heap.size + 2) W W' := by
  refine (wwrite w.heap.size (w.heap.size + 2) (Lib.byteCells l) (tx t) W h.bld (by simpa [Lib.byteCells_length, tx, ByteArray.size] using hl)).mono ?_
  rintro e W' ⟨rfl, hB, hs⟩
  refine ⟨rfl, ⟨?_, ⟨(hs.block bt (by omega) (by omega)).trans h.th.blk, h.th.len⟩, h.bel.trans (hs.below (by omega)), Nat.le_trans h.size hs.size⟩, hs⟩
  rw [Lib.byteCells_append]
  have e : Lib.byteCells t = Lib.strCells (tx t) := by rw [Lib.strCells_eq]; rfl
  rw [e]
  exact hB
theorem KeepT.below {bt Bn : Nat} {A C : World} (h : Below A.heap.size A C) (h1 : bt < A.heap.size) (h2 : Bn < A.heap.size) : KeepT bt Bn A C := ⟨h.size, h.block bt h1, h.block Bn h2⟩
theorem keepsFrom_below {B : Nat} {A C : World} (h : Below A.heap.size A C) : KeepsFrom B A C := ⟨h.size, fun k _ _ ho _ => (h.block k (Array.getElem?_eq_some_iff.1 ho).1).trans ho⟩
theorem Stay.keeps {b B n : Nat} {A C : World} (h : Stay b B A C) : KeepsFrom n A C := ⟨h.size, fun k o _ ho hc => h.same k o ho hc⟩
/-- The frame of a round: the style in a box of its own. -/
def PAx (w : World) (bt : Nat) (ys : List Sty) (x : Fin 10) (a : Act) (W : World) : Prop :=
  ∃ Bx, StyAt W Bx (nthY ys x.1) ∧ a = { tmps := #[.pointer (some ⟨bt, 0, none⟩), undef, .string ⟨#[]⟩, .pointer (some ⟨w.heap.size, 0, none⟩), .string (tx (prt x.1)), .pointer (some ⟨Bx, 0, none⟩), undef, undef, .pointer (some ⟨bt, 0, none⟩), .bool true, .bool false, .pointer (some ⟨bt, 0, none⟩), .func (.func 46) #[] #[.pointer (some ⟨w.heap.size + 1, 0, none⟩)], .string (tx (prt x.1)), styA (nthY ys x.1), undef, undef, undef, undef, undef, undef, undef, undef, undef, undef, undef, undef], defers := [] }
theorem pax_own (w : World) (bt : Nat) (ys : List Sty) (x : Fin 10) (a : Act) (B : Nat) : OwnFrom B (fun (_ : Unit) W => PAx w bt ys x a W) := fun _ _ _ _ ⟨Bx, h1, h2⟩ hg hr =>
  ⟨Bx, ((cells_grown hg (fun r e => (hr r e).2)).2 Bx _ h1 rfl).trans h1, h2⟩
theorem pi_start (w : World) (bt : Nat) (ys : List Sty) (hT : ThAt w bt ys) (p : Value) : PI w bt ys [] ((w.alloc (.cells #[.pointer none, .slice none 0 0] 77)).alloc (.cells #[p] 36)) := by
  have hb : Below w.heap.size w ((w.alloc (.cells #[.pointer none, .slice none 0 0] 77)).alloc (.cells #[p] 36)) := ((Below.refl _ _).alloc (Nat.le_refl _) _).alloc (by simp) _
  have h0 := heap_alloc_old (w.alloc (.cells #[.pointer none, .slice none 0 0] 77)) (.cells #[p] 36) (r := w.heap.size) (by simp)
  have h1 := h0.trans (heap_alloc_new w _)
  exact ⟨⟨Or.inl ⟨Nat.le_refl _, _, h1, ⟨rfl, .inl ⟨rfl, rfl⟩⟩, by simp [Value.ownBlock]⟩, ⟨_, _, h1, ⟨rfl, .inl ⟨rfl, rfl⟩⟩⟩, by omega, by simp⟩, hT.kept hT.lt hb, hb, by simp⟩
set_option maxRecDepth 100000 in
set_option maxHeartbeats 4000000 in
theorem wprint (bt : Nat) (ys : List Sty) (w : World) (hT : ThAt w bt ys) : Calls Tryd.prog 14 #[.pointer (some ⟨bt, 0, none⟩)] w fun e w' => e = .returned (.string (tx (printB ys))) ∧ Below w.heap.size w w' := by
  have HT := Lib.hid hT
  have HBT := Lib.hid hT.lt
  clear hT
  refine (callsIn_wide (n := 6)).1 ?_
  refine callsIn_of_wp_marks Tryd.func14 rfl trivial ?_ rfl
  simp only [Tryd.ntmps14, List.size_toArray, List.length_cons, List.length_nil, Nat.reduceAdd, Nat.reduceSub, Array.replicate_succ, Array.replicate_zero, List.push_toArray, List.append_toArray, List.nil_append, List.cons_append]
  gi_wp2_with (first | (refine ⟨trivial, ?_⟩; gi_at_call 33; refine (callsIn_wide.2 (wmade bt ys _ HT.out)).mono ?_; rintro e w' ⟨rfl, rfl⟩) | (refine ⟨trivial, ?_⟩; gi_at_call 34; refine (callsIn_wide.2 (wall _ _)).mono ?_; rintro e w' ⟨rfl, rfl⟩))
  have HP := Lib.hid (pi_start w bt ys HT.out (.pointer (some ⟨bt, 0, none⟩)))
  have hBn : ((w.alloc (.cells #[.pointer none, .slice none 0 0] 77)).alloc (.cells #[.pointer (some ⟨bt, 0, none⟩)] 36)).cell? ⟨w.heap.size + 1, 0, none⟩ = some (.pointer (some ⟨bt, 0, none⟩)) := by simp [go_sem]
  have hsz : ((w.alloc (.cells #[.pointer none, .slice none 0 0] 77)).alloc (.cells #[.pointer (some ⟨bt, 0, none⟩)] 36)).heap.size = w.heap.size + 2 := by simp
  obtain ⟨W0, hW0⟩ : ∃ W0, (w.alloc (.cells #[.pointer none, .slice none 0 0] 77)).alloc (.cells #[.pointer (some ⟨bt, 0, none⟩)] 36) = W0 := ⟨_, rfl⟩
  rw [hW0] at HP hBn hsz ⊢
  clear hW0
  have HBN := Lib.hid hBn
  have HSZ := Lib.hid hsz
  clear hBn hsz
  refine wpIn_rangeFunc_ownH rfl (by omega) (gf := 46) (lb := #[.pointer (some ⟨w.heap.size + 1, 0, none⟩)]) (by simp [go_sem]) trivial (enters_of Tryd.func46 (by kernel_rfl) rfl)
    (all_stops (ys := ys) HBN.out (by rw [HSZ.out]; omega) HP.out.th) KeepT.trans (keepT_b (by rw [HSZ.out]; have := HBT.out; omega) (by rw [HSZ.out]; omega)) (Below.refl _ _) (fun _ => rfl)
    (fun pre W => PI w bt ys (prL ys (pre.map (·.1))) W)
    (fun _ _ _ => False)
    (pi_own w bt ys _ (by rw [HSZ.out]; omega))
    (fun _ _ _ _ _ hs _ _ => hs)
    HP.out
    (PAx w bt ys) (fun x a => pax_own w bt ys x a _) ?assign ?body ?done ?stop
  case assign =>
    intro l pre x W K hI hK
    unfold encY
    have H := Lib.hid hK
    clear hK
    gi_wp2
    have hb : Below W.heap.size W (W.alloc (.cells #[.bool (nthY ys x.1).b, .bool (nthY ys x.1).u, .bool (nthY ys x.1).i, .int .i64 (nthY ys x.1).f, .int .i64 (nthY ys x.1).g] 23)) := (Below.refl _ _).alloc (Nat.le_refl _) _
    exact H.out _ _ (keepsFrom_below hb) (KeepT.below hb hI.th.lt (by have := hI.size; omega)) (hI.kept hb) ⟨W.heap.size, heap_alloc_new _ _, rfl⟩
  case body =>
    rintro l pre x a' W hl ⟨r, hr⟩ hI ⟨Bx, hBx, rfl⟩ hlt
    have HI := Lib.hid hI
    have HBX := Lib.hid hBx
    have HW := Lib.hid (fun V => wwordsA (nthY ys x.1) V)
    unfold Sty.v at HW
    have hlen : (prL ys (pre.map (·.1))).length ≤ 117 * pre.length := by have := prL_len ys (pre.map (·.1)); simpa using this
    have HLEN := Lib.hid (show (prL ys (pre.map (·.1))).length ≤ 1170 by omega)
    have hsn : prL ys ((pre ++ [x]).map (·.1)) = prL ys (pre.map (·.1)) ++ (prt x.1 ++ ([32] ++ (wB (nthY ys x.1) ++ [10]))) := by rw [List.map_append, List.map_cons, List.map_nil, prL_snoc]; rfl
    have HSN := Lib.hid hsn
    have HPT := Lib.hid (prt_len x.1)
    have HWL := Lib.hid (wB_len (nthY ys x.1))
    obtain ⟨A, hA⟩ : ∃ A, A = wB (nthY ys x.1) := ⟨_, rfl⟩
    obtain ⟨P, hP⟩ : ∃ P, P = prt x.1 := ⟨_, rfl⟩
    obtain ⟨L, hL⟩ : ∃ L, L = prL ys (pre.map (·.1)) := ⟨_, rfl⟩
    rw [← hA] at HW HSN HWL
    rw [← hP] at HSN HPT
    rw [← hL] at HSN HLEN HI
    have HPP := Lib.hid hP
    obtain ⟨c0, c1, c2, c3, c4, _, _⟩ := hBx.get
    clear hI hBx hr hlen hsn hA hL hlt
    rw [← hP]
    clear hP
    gi_wp2_with (first | (refine ⟨trivial, ?_⟩; gi_at_call 7; fail))
    refine ⟨trivial, ?_⟩
    gi_at_call 7
    refine (CallsIn.inRound l (callsIn_wide.2 (HW.out _))).mono ?_
    rintro e w2 ⟨rfl, hb2⟩
    have H2 := Lib.hid (HI.out.kept hb2)
    have K2 := Lib.hid (And.intro (keepsFrom_below (B := W0.heap.size) hb2) (KeepT.below (bt := bt) (Bn := w.heap.size + 1) hb2 HI.out.th.lt (by have := HI.out.size; omega)))
    clear hb2 HI c0 c1 c2 c3 c4
    gi_wp2_with (fail)
    refine ⟨trivial, ?_⟩
    have HC := Lib.hid (H2.out.write HBT.out P (by have := HLEN.out; have := HPT.out; have := HWL.out; simp; omega))
    refine (CallsIn.inRound l (callsIn_wide.2 HC.out)).mono ?_
    rintro e w3 ⟨rfl, h3, s3⟩
    have H3 := Lib.hid h3
    have K3 := Lib.hid (And.intro (K2.out.1.trans s3.keeps) (K2.out.2.trans (KeepT.stay s3 (by have := HBT.out; omega) (by omega))))
    clear h3 s3 H2 K2 HC
    gi_wp2_with (fail)
    refine ⟨trivial, ?_⟩
    have HC := Lib.hid (H3.out.write HBT.out [32] (by have := HLEN.out; have := HPT.out; have := HWL.out; simp; omega))
    refine (CallsIn.inRound l (callsIn_wide.2 HC.out)).mono ?_
    rintro e w4 ⟨rfl, h4, s4⟩
    have H4 := Lib.hid h4
    have K4 := Lib.hid (And.intro (K3.out.1.trans s4.keeps) (K3.out.2.trans (KeepT.stay s4 (by have := HBT.out; omega) (by omega))))
    clear h4 s4 H3 K3 HC
    gi_wp2_with (fail)
    refine ⟨trivial, ?_⟩
    have HC := Lib.hid (H4.out.write HBT.out A (by have := HLEN.out; have := HPT.out; have := HWL.out; simp; omega))
    refine (CallsIn.inRound l (callsIn_wide.2 HC.out)).mono ?_
    rintro e w5 ⟨rfl, h5, s5⟩
    have H5 := Lib.hid h5
    have K5 := Lib.hid (And.intro (K4.out.1.trans s5.keeps) (K4.out.2.trans (KeepT.stay s5 (by have := HBT.out; omega) (by omega))))
    clear h5 s5 H4 K4 HC
    gi_wp2_with (fail)
    refine ⟨trivial, ?_⟩
    have HC := Lib.hid (H5.out.write HBT.out [10] (by have := HLEN.out; have := HPT.out; have := HWL.out; simp; omega))
    refine (CallsIn.inRound l (callsIn_wide.2 HC.out)).mono ?_
    rintro e w6 ⟨rfl, h6, s6⟩
    have H6 := Lib.hid h6
    have K6 := Lib.hid (And.intro (K5.out.1.trans s6.keeps) (K5.out.2.trans (KeepT.stay s6 (by have := HBT.out; omega) (by omega))))
    clear h6 s6 H5 K5 HC
    gi_wp2
    have e : L ++ P ++ [32] ++ A ++ [10] = L ++ (P ++ ([32] ++ (A ++ [10]))) := by simp
    have h6 := H6.out
    rw [e, ← HSN.out] at h6
    exact ⟨K6.out.1, K6.out.2, h6⟩
  case done =>
    rintro D xs W hD hS hI hK
    have HI := Lib.hid hI
    have HK := Lib.hid hK
    have HD := Lib.hid hD
    rw [hS] at HI
    clear hI hK hD
    gi_wp2_with (fail)
    refine ⟨trivial, ?_⟩
    have HC := Lib.hid (Any.Builder_String_any_k Tryd.lays169 Tryd.Builder_Extra_169 w.heap.size w.heap.size (prL ys (List.range 10)) W (Lib.IsBuilderF.of HI.out.bld.at_) (by have := HI.out.size; omega))
    refine (callsIn_wide.2 HC.out).mono ?_
    rintro e w2 ⟨rfl, _, hb2, ho2⟩
    have HB := Lib.hid (HI.out.bel.trans hb2)
    have HK2 : Hid (w2.heap[D]? = some (.deferred (some []))) := Lib.hid (ho2 D _ HK.out (by have h1 := HD.out; have h2 := HSZ.out; simp; omega) (by simp))
    clear hb2 ho2
    gi_wp2
    refine ⟨by simp, .inl ⟨_, _, rfl, run_takeDeferred HK2.out, ?_⟩⟩
    exact ⟨_, results_tmp rfl _ _ _, rfl, HB.out.trans (belowK_b (w := w) (Nat.le_refl _) w2 D _ _ (by have := HD.out; rw [HSZ.out] at this; omega) HK2.out rfl rfl)⟩
  case stop =>
    rintro D c pre W _ _ h _
    exact h.elim
end Go.Proofs.YtlhfdpeidlbomaaDoor
