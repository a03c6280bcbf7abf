/- Walk: Bind of the reference. -/
import Derived.Test.YthkcfdnenbboaaaK33
import Derived.Test.YthkcfdnenbboaaaK21
import Derived.Outline
namespace Go.Proofs.Ythkcfdnenbboaaa
open Go.RowKit Go.Shelf Go.Maps Go.Sort Go.ChangeMaps
def refE (L : List Bd) (n : List UInt8) (a : Int) : Int :=
  if n = [] then 80 else if a < 1 ∨ 19 < a then 1 else if isAt L (mkS n) = false ∧ 512 ≤ L.length then 3 else 0
/-- A binding set at a place; the one that is there, gives way. -/
def setL (L : List Bd) (s : ByteArray) (a : Int) : List Bd := (L.take (plc L s) ++ [(s, a)]) ++ L.drop (if isAt L s then plc L s + 1 else plc L s)
def refL (L : List Bd) (n : List UInt8) (a : Int) : List Bd := if refE L n a = 0 then setL L (mkS n) a else L
def RefEnd (w : World) (L' : List Bd) (E : Int) (e : Ending) (w' : World) : Prop := ∃ x n cap, e = .returned (.tuple #[.agg #[.slice x n cap], .int .i64 E]) ∧ RowB w' x n cap L' ∧ Below w.heap.size w w'
/-- 'append' by its equation. -/
theorem wpList_app {P : Program} (w : World) {ops : Array Oper} {rest : List Oper} {o : Oper} {a : Act} {Q : Exit → Act → World → Prop} (hg : o.guard = none) (s x : Operand)
    (hop : o.op = Op.call { callee := Callee.builtin Builtin.append, args := #[s, x], argTypes := #[42, 42] }) (ht : o.type = 42) (v x' v' : Value) (w' : World) (hs : a.eval s = v) (hx : a.eval x = x')
    (hrun : (Builtin.append_ #[42, 42] 42 #[v, x']).run P w = .ok v' w') (hK : wpList P ops Q rest (a.put o.dst v') w') : wpList P ops Q (o :: rest) a w := by
  refine wpList_plain hg fun K hK' => ?_
  unfold Oper.wp
  simp [execOp, hop, ht, resolve, invoke, builtin, hs, hx, hrun, Result.andThen]
  exact hK' _ _ hK
theorem setL_len {L : List Bd} {s : ByteArray} {a : Int} : (setL L s a).length = if isAt L s then L.length else L.length + 1 := by
  have := plc_le L s
  unfold setL
  simp only [List.length_append, List.length_take, List.length_cons, List.length_nil, List.length_drop]
  cases h : isAt L s
  · simp; omega
  · have : plc L s < L.length := by unfold isAt at h; simp at h; exact h.1
    simp; omega
/-- The boxes of a function of the reference: the bindings, the result. -/
structure RB (w : World) (x : Option Addr) (n cap : Nat) (wx : World) : Prop where
  mb : Boxed wx w.heap.size 44 (.slice x n cap)
  res : Boxed wx (w.heap.size + 2) 44 (.slice none 0 0)
  bel : Below w.heap.size w wx
theorem RB.kept {w : World} {x : Option Addr} {n cap : Nat} {w1 w2 : World} (h : RB w x n cap w1) (hb : Below w1.heap.size w1 w2) : RB w x n cap w2 :=
  ⟨(hb.block _ h.mb.lt).trans h.mb, (hb.block _ h.res.lt).trans h.res, h.bel.trans (below_le hb h.bel.size)⟩
theorem RB.grown {w : World} {x : Option Addr} {n cap : Nat} {w1 w2 : World} {row : Option Nat} (h : RB w x n cap w1) (hg : w1.grownBy w2 row) (hr : ∀ j, row = some j → w.heap.size + 3 ≤ j) : RB w x n cap w2 :=
  ⟨h.mb.kept hg (fun e => by have := hr _ e.symm; omega), h.res.kept hg (fun e => by have := hr _ e.symm; omega), h.bel.grown hg h.bel.size (fun j hj => by have := hr j hj; omega)⟩
theorem RB.big {w : World} {x : Option Addr} {n cap : Nat} {w1 : World} (h : RB w x n cap w1) : w.heap.size + 3 ≤ w1.heap.size := h.res.lt
theorem rb_at (w : World) (x : Option Addr) (n cap : Nat) (o : Obj) : RB w x n cap (((w.alloc (.cells #[.slice x n cap] 44)).alloc o).alloc (.cells #[.slice none 0 0] 44)) := by
  have b1 := Boxed.new ((w.alloc (.cells #[.slice x n cap] 44)).alloc o) 44 (.slice none 0 0)
  simp only [World.size_alloc] at b1
  exact ⟨((Boxed.new w 44 (.slice x n cap)).alloc _).alloc _, b1, (((Below.refl _ w).alloc (Nat.le_refl _) _).alloc (by simp) _).alloc (by simp; omega) _⟩
theorem RB.done {w : World} {x : Option Addr} {n cap : Nat} {w1 : World} (h : RB w x n cap w1) (v : Value) : Boxed (w1.setCell ⟨w.heap.size + 2, 0, none⟩ v) (w.heap.size + 2) 44 v ∧ Below w.heap.size w (w1.setCell ⟨w.heap.size + 2, 0, none⟩ v) :=
  ⟨h.res.set v, h.bel.setCell (p := ⟨w.heap.size + 2, 0, none⟩) (by simp) v⟩
theorem bind_end {w w6 : World} {y3 : Option Addr} {N c3 : Nat} {L' : List Bd} (ho3 : w6.ownsRow (w.heap.size + 3) 91 2 (.slice y3 N c3) N (flat L')) (hL : L'.length = N) : RowB (w6.setCell ⟨w.heap.size + 2, 0, none⟩ (.slice y3 N c3)) y3 N c3 L' := by
  refine rowB_of (ho3.kept (grownBy_setCell' w6 _ _) ?_) hL
  rcases h : (Value.slice y3 N c3).ownBlock with _ | j
  · exact .inl rfl
  · exact .inr (by have := (ho3.lt j h).1; simp; omega)
set_option maxRecDepth 100000 in
set_option maxHeartbeats 16000000 in
theorem wbindR {w : World} {x : Option Addr} {n cap : Nat} {L : List Bd} (h : RowB w x n cap L) (hz : Sized L) (hn : n ≤ 100000) (k : Ky) (hk : k.In) (a : Int) (ha : -9223372036854775808 ≤ a ∧ a ≤ 9223372036854775807) :
    Calls Try.prog 28 #[.agg #[.slice x n cap], k.v, .int .i64 a] w (RefEnd w (refL L k.name a) (refE L k.name a)) := by
  have HR := Lib.hid h
  have HZ := Lib.hid hz
  have HN := Lib.hid (fun W => wnameRS k hk W)
  have HS := Lib.hid (name_sz k hk)
  have HW := Lib.hid (fun W => wwordR a ha W)
  have HL := Lib.hid h.1
  have hnc := h.2.1
  have HNN := Lib.hid hn
  obtain ⟨nm, hnm⟩ : ∃ nm, nm = k.name := ⟨_, rfl⟩
  rw [← hnm] at HN HS ⊢
  clear h hk hnm hz
  obtain ⟨kc, ks, kn, kal, ksh, kct⟩ := k
  unfold Ky.v at HN ⊢
  simp only [] at HN
  have H0 := Lib.hid (rb_at w x n cap (.cells #[.int .i64 kc, .string ks, .int .i64 kn, .bool kal, .bool ksh, .bool kct] 27))
  go_enter Try.func28, Try.ntmps28
  go_wp2_with (first | (go_at_call 18; fail))
  go_at_call 18
  refine (HN.out _).mono ?_
  rintro e w1 ⟨rfl, hb1⟩
  have H1 := Lib.hid (H0.out.kept hb1)
  have cm := H1.out.mb.cell
  have cr := H1.out.res.cell
  have fr := H1.out.res.frozen
  clear hb1 H0
  by_cases hn0 : nm = []
  · have t1 : (mkS nm).toList.isEmpty = true := by rw [mkS_empty]; exact decide_eq_true hn0
    have HE := Lib.hid (show refE L nm a = 80 by rw [refE, if_pos hn0])
    clear hn0
    go_wp2
    refine bodyPost_ret (results_cell_tmp rfl _ _ (w.heap.size + 2) 44 #[.slice x n cap] (0, 0) _ rfl (H1.out.done _).1 Try.underlying44 rfl (by kernel_rfl)) rfl ?_
    refine ⟨x, n, cap, by rw [HE.out]; rfl, ?_, (H1.out.done _).2⟩
    rw [refL, if_neg (by rw [HE.out]; decide)]
    exact HR.out.below (H1.out.done _).2
  · have t1 : (mkS nm).toList.isEmpty = false := by rw [mkS_empty]; exact decide_eq_false hn0
    have HN0 := Lib.hid hn0
    clear hn0
    go_wp2_with (first | (go_at_call 24; fail))
    go_at_call 24
    refine (HW.out _).mono ?_
    rintro e w2 ⟨rfl, hb2⟩
    have H2 := Lib.hid (H1.out.kept hb2)
    clear hb2 H1 cm cr fr
    have cm := H2.out.mb.cell
    have cr := H2.out.res.cell
    have fr := H2.out.res.frozen
    by_cases hw : a < 1 ∨ 19 < a
    · have t2 : (wordOf a).toList.isEmpty = true := by rw [word_empty]; exact decide_eq_true hw
      have HE := Lib.hid (show refE L nm a = 1 by rw [refE, if_neg HN0.out, if_pos hw])
      clear hw
      go_wp2
      refine bodyPost_ret (results_cell_tmp rfl _ _ (w.heap.size + 2) 44 #[.slice x n cap] (0, 0) _ rfl (H2.out.done _).1 Try.underlying44 rfl (by kernel_rfl)) rfl ?_
      refine ⟨x, n, cap, by rw [HE.out]; rfl, ?_, (H2.out.done _).2⟩
      rw [refL, if_neg (by rw [HE.out]; decide)]
      exact HR.out.below (H2.out.done _).2
    · have t2 : (wordOf a).toList.isEmpty = false := by rw [word_empty]; exact decide_eq_false hw
      have HWW := Lib.hid hw
      clear hw
      go_wp2_with (first | (go_at_call 51; fail))
      go_at_call 51
      refine (wplace (HR.out.below H2.out.bel) HZ.out HNN.out (mkS nm) HS.out).mono ?_
      rintro e w3 ⟨rfl, hb3⟩
      have H3 := Lib.hid (H2.out.kept hb3)
      clear hb3 H2 cm cr fr
      have cm := H3.out.mb.cell
      have cr := H3.out.res.cell
      have fr := H3.out.res.frozen
      obtain ⟨i, hi⟩ : ∃ i, i = plc L (mkS nm) := ⟨_, rfl⟩
      obtain ⟨ok, hok⟩ : ∃ ok, ok = isAt L (mkS nm) := ⟨_, rfl⟩
      rw [← hi, ← hok]
      have hin : i ≤ n := by rw [hi, HL.out]; exact plc_le _ _
      have HI := Lib.hid hi
      have HOK := Lib.hid hok
      clear hi hok
      by_cases hf : ok = false ∧ 512 ≤ n
      · obtain ⟨rfl, h5⟩ := hf
        have HE := Lib.hid (show refE L nm a = 3 by rw [refE, if_neg HN0.out, if_neg HWW.out, if_pos ⟨HOK.out.symm, by rw [← HL.out]; exact h5⟩])
        go_wp2
        refine bodyPost_ret (results_cell_tmp rfl _ _ (w.heap.size + 2) 44 #[.slice x n cap] (0, 0) _ rfl (H3.out.done _).1 Try.underlying44 rfl (by kernel_rfl)) rfl ?_
        refine ⟨x, n, cap, by rw [HE.out]; rfl, ?_, (H3.out.done _).2⟩
        rw [refL, if_neg (by rw [HE.out]; decide)]
        exact HR.out.below (H3.out.done _).2
      · have HE := Lib.hid (show refE L nm a = 0 by rw [refE, if_neg HN0.out, if_neg HWW.out, if_neg (fun q => hf ⟨by rw [HOK.out]; exact q.1, by rw [HL.out]; exact q.2⟩)])
        have hbig := H3.out.big
        have hpad : Below w3.heap.size w3 (w3.alloc (.cells #[] 91)) := (Below.refl _ _).alloc (Nat.le_refl _) _
        obtain ⟨v1, w4, hr1, ho1, hg1⟩ := run_app (w := w3.alloc (.cells #[] 91)) (World.ownsRow_made (base := w.heap.size + 3) (e := 91) (size := 2) w3 #[] 0 hbig (by decide) rfl) x i cap (flat (L.take i)) (by rw [flat_len, List.length_take, ← HL.out, Nat.min_eq_left hin]) ((HR.out.below (H3.out.kept hpad).bel).take hin) (flat_one _) (by omega) (by simp; omega) 42
        rw [Nat.zero_add, List.nil_append] at ho1
        obtain ⟨y1, c1, rfl⟩ := owns_slice ho1
        have H4 := Lib.hid ((H3.out.kept hpad).grown hg1 (fun j hj => by simp [Value.ownBlock] at hj; omega))
        have hbig4 := H4.out.big
        have hpad4 : Below w4.heap.size w4 (w4.alloc (.cells #[.string (mkS nm), .int .i64 a] 91)) := (Below.refl _ _).alloc (Nat.le_refl _) _
        obtain ⟨v2, w5, hr2, ho2, hg2⟩ := run_app (w := w4.alloc (.cells #[.string (mkS nm), .int .i64 a] 91)) (ho1.alloc _) (some ⟨w4.heap.size, 0, none⟩) 1 1 (flat [(mkS nm, a)]) rfl (.inr ⟨_, rfl, fun j u hu => by
            have := World.news_of_block (cs := #[.string (mkS nm), .int .i64 a]) (t := 91) (fr := (0, 0)) (heap_alloc_new w4 _) j u hu
            exact this⟩) (flat_one _) (by omega) (by simp; omega) 42
        obtain ⟨y2, c2, rfl⟩ := owns_slice ho2
        have H5 := Lib.hid ((H4.out.kept hpad4).grown hg2 (fun j hj => (ho1.lt j hj).1))
        have hbig5 := H5.out.big
        have cm5 := H5.out.mb.cell
        have HO2 := Lib.hid ho2
        have HG := Lib.hid (And.intro hbig hbig5)
        have HR5 := Lib.hid (HR.out.below H5.out.bel)
        have HF := Lib.hid hf
        have hlt3 : w.heap.size < w3.heap.size := by omega
        have hlt5 : w.heap.size + 2 < w5.heap.size := by omega
        have fr5 := H5.out.res.frozen
        have cr5 := H5.out.res.cell
        have R1 := Lib.hid hr1
        have R2 := Lib.hid hr2
        clear hr1 hr2
        clear hg1 hg2 ho1 ho2 hpad hpad4 H3 H4 hf hbig4 hbig hbig5
        cases ok
        · have h5 : n < 512 := by have := HF.out; simp at this; omega
          rcases HR5.out.2.2 with ⟨rfl, rfl⟩ | ⟨g, rfl, hg, _⟩
          · have hn00 : n = 0 := by omega
            have hi0 : i = 0 := by omega
            subst hn00
            subst hi0
            obtain ⟨v3, w6, hr3, ho3, hg3⟩ := run_app HO2.out none 0 0 (flat (L.drop (0))) (by have h := flat_len (L.drop (0)); rw [List.length_drop] at h; have h2 := HL.out; omega) (.inl ⟨rfl, rfl, rfl⟩) (flat_one _) (by omega) (by omega) 42
            rw [show 0 + 1 + 0 = 1 by omega] at ho3
            obtain ⟨y3, c3, rfl⟩ := owns_slice ho3
            have H6 := Lib.hid (H5.out.grown hg3 (fun j hj => (HO2.out.lt j hj).1))
            have HO3 := Lib.hid ho3
            have R3 := Lib.hid hr3
            have cr6 := H6.out.res.cell
            have fr6 := H6.out.res.frozen
            clear hr3 ho3 hg3
            go_wp2_with (first | (at_builtin; refine wpList_app _ rfl _ _ rfl rfl _ _ _ _ rfl rfl R1.out ?_; clear R1) | (at_builtin; refine wpList_app _ rfl _ _ rfl rfl _ _ _ _ rfl rfl R2.out ?_; clear R2) | (at_builtin; refine wpList_app _ rfl _ _ rfl rfl _ _ _ _ rfl rfl R3.out ?_; clear R3))
            refine bodyPost_ret (results_cell_tmp rfl _ _ (w.heap.size + 2) 44 #[.slice y3 (1) c3] (0, 0) _ rfl (H6.out.done _).1 Try.underlying44 rfl (by kernel_rfl)) rfl ?_
            refine ⟨y3, _, c3, by rw [HE.out]; rfl, ?_, (H6.out.done _).2⟩
            rw [refL, if_pos HE.out, show setL L (mkS nm) a = L.take (0) ++ [(mkS nm, a)] ++ L.drop (0) by rw [setL, ← HOK.out, ← HI.out]; rfl]
            exact bind_end (by have := HO3.out; rwa [← flat_app, ← flat_app] at this) (by simp only [List.length_append, List.length_take, List.length_drop, List.length_cons, List.length_nil]; have h2 := HL.out; omega)
          · by_cases hc : cap = i
            · have hni : n = i := by omega
              subst hc
              subst hni
              obtain ⟨v3, w6, hr3, ho3, hg3⟩ := run_app HO2.out (some ⟨g, 0, none⟩) 0 0 (flat (L.drop (n))) (by have h := flat_len (L.drop (n)); rw [List.length_drop] at h; have h2 := HL.out; omega) (.inr ⟨_, rfl, fun j u hu => by rw [List.drop_eq_nil_of_le (by rw [← HL.out]; exact Nat.le_refl _)] at hu; simp [flat] at hu⟩) (flat_one _) (by omega) (by omega) 42
              rw [show n + 1 + 0 = n + 1 by omega] at ho3
              obtain ⟨y3, c3, rfl⟩ := owns_slice ho3
              have H6 := Lib.hid (H5.out.grown hg3 (fun j hj => (HO2.out.lt j hj).1))
              have HO3 := Lib.hid ho3
              have R3 := Lib.hid hr3
              have cr6 := H6.out.res.cell
              have fr6 := H6.out.res.frozen
              clear hr3 ho3 hg3
              go_wp2_with (first | (at_builtin; refine wpList_app _ rfl _ _ rfl rfl _ _ _ _ rfl rfl R1.out ?_; clear R1) | (at_builtin; refine wpList_app _ rfl _ _ rfl rfl _ _ _ _ rfl rfl R2.out ?_; clear R2) | (at_builtin; refine wpList_app _ rfl _ _ rfl rfl _ _ _ _ rfl rfl R3.out ?_; clear R3))
              refine bodyPost_ret (results_cell_tmp rfl _ _ (w.heap.size + 2) 44 #[.slice y3 (n + 1) c3] (0, 0) _ rfl (H6.out.done _).1 Try.underlying44 rfl (by kernel_rfl)) rfl ?_
              refine ⟨y3, _, c3, by rw [HE.out]; rfl, ?_, (H6.out.done _).2⟩
              rw [refL, if_pos HE.out, show setL L (mkS nm) a = L.take (n) ++ [(mkS nm, a)] ++ L.drop (n) by rw [setL, ← HOK.out, ← HI.out]; rfl]
              exact bind_end (by have := HO3.out; rwa [← flat_app, ← flat_app] at this) (by simp only [List.length_append, List.length_take, List.length_drop, List.length_cons, List.length_nil]; have h2 := HL.out; omega)
            · have hci : i < cap := by omega
              clear hc
              obtain ⟨v3, w6, hr3, ho3, hg3⟩ := run_app HO2.out (some ⟨g, i * 2, none⟩) (n - i) (cap - i) (flat (L.drop (i))) (by have h := flat_len (L.drop (i)); rw [List.length_drop] at h; have h2 := HL.out; omega) (.inr ⟨_, rfl, HR5.out.drop hin⟩) (flat_one _) (by omega) (by omega) 42
              rw [show i + 1 + (n - i) = n + 1 by omega] at ho3
              obtain ⟨y3, c3, rfl⟩ := owns_slice ho3
              have H6 := Lib.hid (H5.out.grown hg3 (fun j hj => (HO2.out.lt j hj).1))
              have HO3 := Lib.hid ho3
              have R3 := Lib.hid hr3
              have cr6 := H6.out.res.cell
              have fr6 := H6.out.res.frozen
              clear hr3 ho3 hg3
              go_wp2_with (first | (at_builtin; refine wpList_app _ rfl _ _ rfl rfl _ _ _ _ rfl rfl R1.out ?_; clear R1) | (at_builtin; refine wpList_app _ rfl _ _ rfl rfl _ _ _ _ rfl rfl R2.out ?_; clear R2) | (at_builtin; refine wpList_app _ rfl _ _ rfl rfl _ _ _ _ rfl rfl R3.out ?_; clear R3))
              refine bodyPost_ret (results_cell_tmp rfl _ _ (w.heap.size + 2) 44 #[.slice y3 (n + 1) c3] (0, 0) _ rfl (H6.out.done _).1 Try.underlying44 rfl (by kernel_rfl)) rfl ?_
              refine ⟨y3, _, c3, by rw [HE.out]; rfl, ?_, (H6.out.done _).2⟩
              rw [refL, if_pos HE.out, show setL L (mkS nm) a = L.take (i) ++ [(mkS nm, a)] ++ L.drop (i) by rw [setL, ← HOK.out, ← HI.out]; rfl]
              exact bind_end (by have := HO3.out; rwa [← flat_app, ← flat_app] at this) (by simp only [List.length_append, List.length_take, List.length_drop, List.length_cons, List.length_nil]; have h2 := HL.out; omega)
        · have hin2 : i + 1 ≤ n := by
            have h := HOK.out.symm
            unfold isAt at h
            simp only [Bool.and_eq_true, decide_eq_true_eq] at h
            rw [← HI.out, ← HL.out] at h
            exact h.1
          rcases HR5.out.2.2 with ⟨rfl, rfl⟩ | ⟨g, rfl, hg, _⟩
          · omega
          · by_cases hc : cap = i + 1
            · have hni : n = i + 1 := by omega
              subst hc
              subst hni
              obtain ⟨v3, w6, hr3, ho3, hg3⟩ := run_app HO2.out (some ⟨g, 0, none⟩) 0 0 (flat (L.drop (i + 1))) (by have h := flat_len (L.drop (i + 1)); rw [List.length_drop] at h; have h2 := HL.out; omega) (.inr ⟨_, rfl, fun j u hu => by rw [List.drop_eq_nil_of_le (by rw [← HL.out]; exact Nat.le_refl _)] at hu; simp [flat] at hu⟩) (flat_one _) (by omega) (by omega) 42
              rw [show i + 1 + 0 = i + 1 by omega] at ho3
              obtain ⟨y3, c3, rfl⟩ := owns_slice ho3
              have H6 := Lib.hid (H5.out.grown hg3 (fun j hj => (HO2.out.lt j hj).1))
              have HO3 := Lib.hid ho3
              have R3 := Lib.hid hr3
              have cr6 := H6.out.res.cell
              have fr6 := H6.out.res.frozen
              clear hr3 ho3 hg3
              go_wp2_with (first | (at_builtin; refine wpList_app _ rfl _ _ rfl rfl _ _ _ _ rfl rfl R1.out ?_; clear R1) | (at_builtin; refine wpList_app _ rfl _ _ rfl rfl _ _ _ _ rfl rfl R2.out ?_; clear R2) | (at_builtin; refine wpList_app _ rfl _ _ rfl rfl _ _ _ _ rfl rfl R3.out ?_; clear R3))
              refine bodyPost_ret (results_cell_tmp rfl _ _ (w.heap.size + 2) 44 #[.slice y3 (i + 1) c3] (0, 0) _ rfl (H6.out.done _).1 Try.underlying44 rfl (by kernel_rfl)) rfl ?_
              refine ⟨y3, _, c3, by rw [HE.out]; rfl, ?_, (H6.out.done _).2⟩
              rw [refL, if_pos HE.out, show setL L (mkS nm) a = L.take (i) ++ [(mkS nm, a)] ++ L.drop (i + 1) by rw [setL, ← HOK.out, ← HI.out]; rfl]
              exact bind_end (by have := HO3.out; rwa [← flat_app, ← flat_app] at this) (by simp only [List.length_append, List.length_take, List.length_drop, List.length_cons, List.length_nil]; have h2 := HL.out; omega)
            · have hci : i + 1 < cap := by omega
              clear hc
              obtain ⟨v3, w6, hr3, ho3, hg3⟩ := run_app HO2.out (some ⟨g, (i + 1) * 2, none⟩) (n - (i + 1)) (cap - (i + 1)) (flat (L.drop (i + 1))) (by have h := flat_len (L.drop (i + 1)); rw [List.length_drop] at h; have h2 := HL.out; omega) (.inr ⟨_, rfl, HR5.out.drop hin2⟩) (flat_one _) (by omega) (by omega) 42
              rw [show i + 1 + (n - (i + 1)) = n by omega] at ho3
              obtain ⟨y3, c3, rfl⟩ := owns_slice ho3
              have H6 := Lib.hid (H5.out.grown hg3 (fun j hj => (HO2.out.lt j hj).1))
              have HO3 := Lib.hid ho3
              have R3 := Lib.hid hr3
              have cr6 := H6.out.res.cell
              have fr6 := H6.out.res.frozen
              clear hr3 ho3 hg3
              go_wp2_with (first | (at_builtin; refine wpList_app _ rfl _ _ rfl rfl _ _ _ _ rfl rfl R1.out ?_; clear R1) | (at_builtin; refine wpList_app _ rfl _ _ rfl rfl _ _ _ _ rfl rfl R2.out ?_; clear R2) | (at_builtin; refine wpList_app _ rfl _ _ rfl rfl _ _ _ _ rfl rfl R3.out ?_; clear R3))
              refine bodyPost_ret (results_cell_tmp rfl _ _ (w.heap.size + 2) 44 #[.slice y3 (n) c3] (0, 0) _ rfl (H6.out.done _).1 Try.underlying44 rfl (by kernel_rfl)) rfl ?_
              refine ⟨y3, _, c3, by rw [HE.out]; rfl, ?_, (H6.out.done _).2⟩
              rw [refL, if_pos HE.out, show setL L (mkS nm) a = L.take (i) ++ [(mkS nm, a)] ++ L.drop (i + 1) by rw [setL, ← HOK.out, ← HI.out]; rfl]
              exact bind_end (by have := HO3.out; rwa [← flat_app, ← flat_app] at this) (by simp only [List.length_append, List.length_take, List.length_drop, List.length_cons, List.length_nil]; have h2 := HL.out; omega)
end Go.Proofs.Ythkcfdnenbboaaa
