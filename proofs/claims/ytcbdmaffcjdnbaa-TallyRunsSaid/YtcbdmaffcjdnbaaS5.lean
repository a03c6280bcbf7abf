/- Runs: the sums of all kinds. -/
import Derived.Test.YtcbdmaffcjdnbaaS4
namespace Go.Proofs.Ytcbdmaffcjdnbaa
open Go.RowKit Go.Shelf Go.Maps
attribute [local go_sem] Oper.semAt_some
/-- Names and counts that the iterator's contract asks. -/
structure IOk (ks : List Kd) : Prop where
  len : ks.length ≤ 100
  size : ∀ i, i < ks.length → (kn ks i).s.size ≤ 32
  once : ∀ i j, i < j → j < ks.length → (kn ks i).s ≠ (kn ks j).s
  cnt : ∀ i, i < ks.length → 0 ≤ (kn ks i).c ∧ (kn ks i).c ≤ 1000
theorem iter_stops {n0 b mb m : Nat} {ov : Value} {S : TS} {w w1 : World} (hT : TalI w n0 b mb m ov S) (hI : IOk S.ks) (hB : Below w.heap.size w w1) (Bp : Nat) (hBp : Bp < w1.heap.size) (hc : w1.cell? ⟨Bp, 0, none⟩ = some (.pointer (some ⟨b, 0, none⟩))) :
    SeqStopsK Fence.wide 5 Try.prog 31 #[.pointer (some ⟨Bp, 0, none⟩)] (kenc S.ks) (KeepP w.heap.size Bp) (fun xs => xs.map (·.1) = List.range S.ks.length) (fun pre => ∃ k, k ≤ S.ks.length ∧ 0 < k ∧ pre.map (·.1) = List.range k) S.ks.length w1 := fun l J Jx W hW _ _ hY h0 => by
  refine (iter_in l Bp n0 b mb m ov S w hT hI.len hI.size hI.once (fun q W => ∃ fs : List (Fin S.ks.length), q = fs.map (·.1) ∧ J fs W) (fun q W => ∃ fs : List (Fin S.ks.length), q = fs.map (·.1) ∧ Jx fs W) ?_ W
    (hB.trans (hW.mono hB.size)) ((hW.cell (p := ⟨Bp, 0, none⟩) hBp).trans hc) ⟨[], rfl, h0⟩).mono ?_
  · rintro k W1 ⟨fs, hfs, hJ⟩ hlt
    have hl : fs.length = k := by have := congrArg List.length hfs; simpa using this.symm
    refine (hY fs ⟨k, hlt⟩ W1 hJ (by omega)).mono ?_
    have e : List.range (k + 1) = (fs ++ [(⟨k, hlt⟩ : Fin S.ks.length)]).map (·.1) := by rw [List.range_succ, hfs]; simp
    rintro e' W' (⟨he, h1, h2⟩ | ⟨he, h1⟩)
    · exact .inl ⟨he, ⟨_, e, h1⟩, h2⟩
    · exact .inr ⟨he, _, e, h1⟩
  · rintro e W' ⟨he, ⟨xs, hx, fs, hf, hJ⟩ | ⟨pre, ⟨k, h1, h2, h3⟩, fs, hf, hJ⟩⟩
    · exact ⟨he, .inl ⟨fs, hf.symm.trans hx, hJ⟩⟩
    · exact ⟨he, .inr ⟨fs, ⟨k, h1, h2, hf.symm.trans h3⟩, hJ⟩⟩
theorem keepP_b {n₀ Bp : Nat} {w : World} (hn : n₀ ≤ w.heap.size) (hb : Bp < w.heap.size) : ∀ (W : World) (l : Nat) (o o' : Obj), w.heap.size ≤ l → W.heap[l]? = some o → o.isCells = false → o.isWalk = false → KeepP n₀ Bp W (W.putObj l o') := fun W l o o' hl ho h1 h2 =>
  ⟨belowK_b hn W l o o' hl ho h1 h2, World.putObj_heap_other (by omega)⟩
theorem keepsFrom_set {B : Nat} (W : World) (a : Addr) (v : Value) (h : a.block < B) : KeepsFrom B W (W.setCell a v) := ⟨by simp, fun k o hk ho _ => by rw [Below.heap_setCell _ _ _ _ (by omega)]; exact ho⟩
def sumF (ks : List Kd) : List (Fin ks.length) → Int
  | [] => 0
  | x :: xs => (kn ks x.1).c + sumF ks xs
theorem sumF_snoc (ks : List Kd) (xs : List (Fin ks.length)) (x : Fin ks.length) : sumF ks (xs ++ [x]) = sumF ks xs + (kn ks x.1).c := by
  induction xs with
  | nil => simp [sumF]
  | cons y ys ih => simp only [List.cons_append, sumF, ih]; omega
theorem sumF_bd {ks : List Kd} (h : IOk ks) (xs : List (Fin ks.length)) : 0 ≤ sumF ks xs ∧ sumF ks xs ≤ 1000 * xs.length := by
  induction xs with
  | nil => simp [sumF]
  | cons y ys ih => have := h.cnt y.1 y.2; simp only [sumF, List.length_cons]; omega
theorem sumN_snoc (ks : List Kd) (k : Nat) (h : k < ks.length) : sumC (ks.take (k + 1)) = sumC (ks.take k) + (kn ks k).c := by
  rw [List.take_succ_eq_append_getElem h, sumC_snoc]
  simp [kn, List.getD, h]
theorem sumF_range (ks : List Kd) : ∀ (k : Nat) (xs : List (Fin ks.length)), k ≤ ks.length → xs.map (·.1) = List.range k → sumF ks xs = sumC (ks.take k) := by
  intro k
  induction k with
  | zero =>
    intro xs _ h
    have : xs = [] := by simpa using h
    subst this; simp [sumF, sumC]
  | succ k ih =>
    intro xs hk h
    have hl : xs.length = k + 1 := by have := congrArg List.length h; simpa using this
    obtain ⟨ys, y, rfl⟩ : ∃ ys y, xs = ys ++ [y] := ⟨xs.dropLast, xs.getLast (by intro e; subst e; simp at hl), (List.dropLast_concat_getLast _).symm⟩
    rw [List.map_append, List.range_succ] at h
    have h2 := List.append_inj' h (by simp)
    rw [sumF_snoc, ih ys (by omega) h2.1, sumN_snoc ks k (by omega)]
    have : y.1 = k := by simpa using h2.2
    rw [this]
def TotEnd (S : TS) (w : World) (e : Ending) (w' : World) : Prop := e = .returned (.tuple #[.int .i64 (sumC S.ks), .int .i64 S.a, .int .i64 S.t]) ∧ Below w.heap.size w w'
set_option maxRecDepth 100000 in
set_option maxHeartbeats 2000000 in
theorem total_yes {w : World} {n0 b mb m : Nat} {ov : Value} {S : TS} (h : TalI w n0 b mb m ov S) (hI : IOk S.ks) : Calls Try.prog 15 #[.pointer (some ⟨b, 0, none⟩)] w (TotEnd S w) := by
  obtain ⟨c0, c1, c2, c3, c4, c5, c6, hf, hl⟩ := h.cells.get
  have H6 := Lib.hid c6
  have HT := Lib.hid h
  have HI := Lib.hid hI
  clear h hI c0 c1 c2 c3 c4 c5 hf
  refine (callsIn_wide (n := 6)).1 ?_
  refine callsIn_of_wp_marks Try.func15 rfl trivial ?_ rfl
  simp only [Try.ntmps15, List.size_toArray, List.length_cons, List.length_nil, Nat.reduceAdd, Nat.reduceSub, Array.replicate_succ, Array.replicate_zero, List.push_toArray, List.append_toArray, List.nil_append, List.cons_append]
  gi_wp2_with (first | (refine ⟨trivial, ?_⟩; gi_at_call 27; refine (callsIn_wide.2 (made_yes _ b mb ?_)).mono ?_; (go_simp); rintro e w' ⟨rfl, rfl⟩) | (refine ⟨trivial, ?_⟩; gi_at_call 28; refine (callsIn_wide.2 (tkinds _ _)).mono ?_; rintro e w' ⟨rfl, rfl⟩))
  have hsz : ((w.alloc (.cells #[.int .i64 0] 3)).alloc (.cells #[.pointer (some ⟨b, 0, none⟩)] 36)).heap.size = w.heap.size + 2 := by simp
  have hB2 : Below w.heap.size w ((w.alloc (.cells #[.int .i64 0] 3)).alloc (.cells #[.pointer (some ⟨b, 0, none⟩)] 36)) := ((Below.refl _ w).alloc (Nat.le_refl _) _).alloc (by simp) _
  refine wpIn_rangeFunc_ownG rfl (by omega) (gf := 31) (lb := #[.pointer (some ⟨w.heap.size + 1, 0, none⟩)]) (by simp [go_sem]) trivial (enters_of Try.func31 (by kernel_rfl) rfl)
    (iter_stops HT.out HI.out hB2 (w.heap.size + 1) (by simp) (by simp [go_sem])) KeepP.trans (keepP_b (by omega) (by omega)) (Below.refl _ _) (fun _ => rfl)
    (fun pre W => Boxed W w.heap.size 3 (.int .i64 (sumF S.ks pre)) ∧ Below w.heap.size w W)
    (fun _ _ _ => False)
    (OwnFrom.and (fun _ _ _ _ hs hg hr => (grownBy_keeps_cells hg (fun r e => (hr r e).2) hs rfl).trans hs) (ownFrom_below (Nat.le_refl _) (by omega)))
    (fun _ _ _ _ _ hs _ _ => hs)
    ⟨(Boxed.new w 3 (.int .i64 0)).alloc _, hB2⟩
    (fun y => { tmps := #[.pointer (some ⟨b, 0, none⟩), undef, .pointer (some ⟨w.heap.size, 0, none⟩), .int .i64 0, .int .i64 0, undef, .int .i64 (kn S.ks y.1).c, .pointer (some ⟨b, 0, none⟩), .bool true, .bool false, .pointer (some ⟨b, 0, none⟩), .func (.func 31) #[] #[.pointer (some ⟨w.heap.size + 1, 0, none⟩)], .string (kn S.ks y.1).s, .int .i64 (kn S.ks y.1).c, undef, undef, undef, undef, undef, undef, undef, undef, undef, undef, undef, undef, undef, undef], defers := [] }) ?assign ?body ?done ?stop
  case assign =>
    intro l x W K hK
    unfold kenc
    gi_wp2
    exact hK
  case body =>
    rintro l pre y W ⟨hI, hB⟩ hlt
    have hbd := sumF_bd HI.out pre
    have hyd := HI.out.cnt y.1 y.2
    have hlen := HI.out.len
    have c1 := hI.cell
    have f1 := hI.frozen
    have hl1 := hI.lt
    have HI' := Lib.hid hI
    have HB := Lib.hid hB
    have HS := Lib.hid (sumF_snoc S.ks pre y)
    obtain ⟨z, hz⟩ : ∃ z, sumF S.ks pre = z := ⟨_, rfl⟩
    have hz0 : 0 ≤ z := by omega
    have hz1 : z ≤ 100000 := by omega
    rw [hz] at c1 HS
    clear hI hB hbd hz hlt hlen
    gi_wp2
    refine ⟨keepsFrom_set _ _ _ (by rw [hsz]; simp), ⟨(Below.refl _ _).setCell (by simp) _, Below.heap_setCell _ _ _ _ (by simp)⟩, ?_, HB.out.setCell (by simp) _⟩
    rw [HS.out]
    exact HI'.out.set _
  case done =>
    rintro D ys W hD hys ⟨hI, hB⟩ hK
    rw [sumF_range S.ks S.ks.length ys (Nat.le_refl _) hys, List.take_length] at hI
    have hT2 := HT.out.below hB
    obtain ⟨c0, c1, c2, c3, c4, c5, c6, hf, hl⟩ := hT2.cells.get
    have d1 := hI.cell
    have f1 := hI.frozen
    have hl1 := hI.lt
    have HB := Lib.hid hB
    have HK := Lib.hid hK
    have HII := Lib.hid hI
    have HD := Lib.hid (show w.heap.size ≤ D by rw [hsz] at hD; omega)
    have HD2 := Lib.hid (show w.heap.size + 2 ≤ D by rw [hsz] at hD; omega)
    clear hT2 hI hB hys hK hD c0 c1 c2 c5 c6 hf
    gi_wp2
    gi_region
    all_goals
      gi_wp2
      have hK' : ((W.setCell ⟨w.heap.size, 0, none⟩ (.int .i64 (sumC S.ks))).drew).heap[D]? = some (.deferred (some [])) := by
        show (W.setCell _ _).heap[D]? = _
        rw [Below.heap_setCell _ _ _ _ (by have := HD2.out; show D ≠ w.heap.size; omega)]
        exact HK.out
      refine ⟨by simp, .inl ⟨_, _, rfl, run_takeDeferred hK', ?_⟩⟩
      refine ⟨.tuple #[.int .i64 (sumC S.ks), .int .i64 S.a, .int .i64 S.t], ?_, rfl, ?_⟩
      · have hcell : ((W.setCell ⟨w.heap.size, 0, none⟩ (.int .i64 (sumC S.ks))).drew.putObj D (.deferred none)).cell? ⟨w.heap.size, 0, none⟩ = some (.int .i64 (sumC S.ks)) := by
          have hb := HII.out.set (.int .i64 (sumC S.ks))
          refine (World.cell?_of_block (World.putObj_heap_other (show w.heap.size ≠ D by have := HD2.out; omega))).trans ?_
          exact hb.cell
        simp [results, Try.results15, go_sem, hcell]
      · exact (HB.out.setCell (by simp) _).drew.trans (belowK_b (w := w) (Nat.le_refl _) _ D _ _ HD.out hK' rfl rfl)
  case stop =>
    rintro D c pre W _ _ h _
    exact h.elim
end Go.Proofs.Ytcbdmaffcjdnbaa
