/- Walks: Drop, Act of the reference. -/
import Derived.Test.YthkcfdnenbboaaaK34
namespace Go.Proofs.Ythkcfdnenbboaaa
open Go.RowKit Go.Shelf Go.Maps Go.Sort Go.ChangeMaps
def dropOk (L : List Bd) (n : List UInt8) : Bool := !decide (n = []) && isAt L (mkS n)
def dropL (L : List Bd) (n : List UInt8) : List Bd := if dropOk L n = true then L.take (plc L (mkS n)) ++ L.drop (plc L (mkS n) + 1) else L
def DropEnd (w : World) (L' : List Bd) (E : Bool) (e : Ending) (w' : World) : Prop := ∃ x n cap, e = .returned (.tuple #[.agg #[.slice x n cap], .bool E]) ∧ RowB w' x n cap L' ∧ Below w.heap.size w w'
set_option maxRecDepth 100000 in
set_option maxHeartbeats 16000000 in
theorem wdropR {w : World} {x : Option Addr} {n cap : Nat} {L : List Bd} (h : RowB w x n cap L) (hz : Sized L) (hn : n ≤ 100000) (k : Ky) (hk : k.In) :
    Calls Try.prog 26 #[.agg #[.slice x n cap], k.v] w (DropEnd w (dropL L k.name) (dropOk L k.name)) := by
  have HR := Lib.hid h
  have HZ := Lib.hid hz
  have HN := Lib.hid (fun W => wnameRS k hk W)
  have HS := Lib.hid (name_sz k hk)
  have HL := Lib.hid h.1
  have hnc := h.2.1
  have HNN := Lib.hid hn
  obtain ⟨nm, hnm⟩ : ∃ nm, nm = k.name := ⟨_, rfl⟩
  rw [← hnm] at HN HS ⊢
  clear h hk hnm hz
  obtain ⟨kc, ks, kn, kal, ksh, kct⟩ := k
  unfold Ky.v at HN ⊢
  simp only [] at HN
  have H0 := Lib.hid (rb_at w x n cap (.cells #[.int .i64 kc, .string ks, .int .i64 kn, .bool kal, .bool ksh, .bool kct] 27))
  go_enter Try.func26, Try.ntmps26
  go_wp2_with (first | (go_at_call 18; fail))
  go_at_call 18
  refine (HN.out _).mono ?_
  rintro e w1 ⟨rfl, hb1⟩
  have H1 := Lib.hid (H0.out.kept hb1)
  have cm := H1.out.mb.cell
  clear hb1 H0
  go_wp2_with (first | (go_at_call 51; fail))
  go_at_call 51
  refine (wplace (HR.out.below H1.out.bel) HZ.out HNN.out (mkS nm) HS.out).mono ?_
  rintro e w3 ⟨rfl, hb3⟩
  have H3 := Lib.hid (H1.out.kept hb3)
  clear hb3 H1 cm
  have cm := H3.out.mb.cell
  have cr := H3.out.res.cell
  have fr := H3.out.res.frozen
  obtain ⟨i, hi⟩ : ∃ i, i = plc L (mkS nm) := ⟨_, rfl⟩
  obtain ⟨ok, hok⟩ : ∃ ok, ok = isAt L (mkS nm) := ⟨_, rfl⟩
  rw [← hi, ← hok]
  have HI := Lib.hid hi
  have HOK := Lib.hid hok
  clear hi hok
  by_cases hn0 : nm = []
  · have t1 : (mkS nm).toList.isEmpty = true := by rw [mkS_empty]; exact decide_eq_true hn0
    have HE := Lib.hid (show dropOk L nm = false by rw [dropOk, decide_eq_true hn0]; rfl)
    clear hn0
    go_wp2
    refine bodyPost_ret (results_cell_tmp rfl _ _ (w.heap.size + 2) 44 #[.slice x n cap] (0, 0) _ rfl (H3.out.done _).1 Try.underlying44 rfl (by kernel_rfl)) rfl ?_
    refine ⟨x, n, cap, by rw [HE.out]; rfl, ?_, (H3.out.done _).2⟩
    rw [dropL, if_neg (by rw [HE.out]; decide)]
    exact HR.out.below (H3.out.done _).2
  · have t1 : (mkS nm).toList.isEmpty = false := by rw [mkS_empty]; exact decide_eq_false hn0
    have HN0 := Lib.hid hn0
    clear hn0
    cases ok
    · have HE := Lib.hid (show dropOk L nm = false by rw [dropOk, ← HOK.out, Bool.and_false])
      go_wp2
      refine bodyPost_ret (results_cell_tmp rfl _ _ (w.heap.size + 2) 44 #[.slice x n cap] (0, 0) _ rfl (H3.out.done _).1 Try.underlying44 rfl (by kernel_rfl)) rfl ?_
      refine ⟨x, n, cap, by rw [HE.out]; rfl, ?_, (H3.out.done _).2⟩
      rw [dropL, if_neg (by rw [HE.out]; decide)]
      exact HR.out.below (H3.out.done _).2
    · have HE := Lib.hid (show dropOk L nm = true by rw [dropOk, ← HOK.out, decide_eq_false HN0.out]; rfl)
      have hin2 : i + 1 ≤ n := by
        have h := HOK.out.symm
        unfold isAt at h
        simp only [Bool.and_eq_true, decide_eq_true_eq] at h
        rw [← HI.out, ← HL.out] at h
        exact h.1
      have hbig := H3.out.big
      have hpad : Below w3.heap.size w3 (w3.alloc (.cells #[] 91)) := (Below.refl _ _).alloc (Nat.le_refl _) _
      obtain ⟨v1, w4, hr1, ho1, hg1⟩ := run_app (w := w3.alloc (.cells #[] 91)) (World.ownsRow_made (base := w.heap.size + 3) (e := 91) (size := 2) w3 #[] 0 hbig (by decide) rfl) x i cap (flat (L.take i)) (by have h := flat_len (L.take i); rw [List.length_take] at h; have h2 := HL.out; omega) ((HR.out.below (H3.out.kept hpad).bel).take (by omega)) (flat_one _) (by omega) (by simp; omega) 42
      rw [Nat.zero_add, List.nil_append] at ho1
      obtain ⟨y1, c1, rfl⟩ := owns_slice ho1
      have H4 := Lib.hid ((H3.out.kept hpad).grown hg1 (fun j hj => by simp [Value.ownBlock] at hj; omega))
      have hbig4 := H4.out.big
      have cm4 := H4.out.mb.cell
      have HO1 := Lib.hid ho1
      have HR4 := Lib.hid (HR.out.below H4.out.bel)
      have hlt3 : w.heap.size < w3.heap.size := by omega
      have hlt4 : w.heap.size + 2 < w4.heap.size := by omega
      have R1 := Lib.hid hr1
      clear hr1 hg1 ho1 hpad H3 hbig hbig4
      rcases HR4.out.2.2 with ⟨rfl, rfl⟩ | ⟨g, rfl, hg, _⟩
      · omega
      · by_cases hc : cap = i + 1
        · have hni : n = i + 1 := by omega
          subst hc
          subst hni
          obtain ⟨v3, w6, hr3, ho3, hg3⟩ := run_app HO1.out (some ⟨g, 0, none⟩) 0 0 (flat (L.drop (i + 1))) (by have h := flat_len (L.drop (i + 1)); rw [List.length_drop] at h; have h2 := HL.out; omega) (.inr ⟨_, rfl, fun j u hu => by rw [List.drop_eq_nil_of_le (by rw [← HL.out]; exact Nat.le_refl _)] at hu; simp [flat] at hu⟩) (flat_one _) (by omega) (by omega) 42
          rw [show i + 0 = i by omega] at ho3
          obtain ⟨y3, c3, rfl⟩ := owns_slice ho3
          have H6 := Lib.hid (H4.out.grown hg3 (fun j hj => (HO1.out.lt j hj).1))
          have HO3 := Lib.hid ho3
          have R3 := Lib.hid hr3
          have cr6 := H6.out.res.cell
          have fr6 := H6.out.res.frozen
          clear hr3 ho3 hg3
          go_wp2_with (first | (at_builtin; refine wpList_app _ rfl _ _ rfl rfl _ _ _ _ rfl rfl R1.out ?_; clear R1) | (at_builtin; refine wpList_app _ rfl _ _ rfl rfl _ _ _ _ rfl rfl R3.out ?_; clear R3))
          refine bodyPost_ret (results_cell_tmp rfl _ _ (w.heap.size + 2) 44 #[.slice y3 (i) c3] (0, 0) _ rfl (H6.out.done _).1 Try.underlying44 rfl (by kernel_rfl)) rfl ?_
          refine ⟨y3, _, c3, by rw [HE.out]; rfl, ?_, (H6.out.done _).2⟩
          rw [dropL, if_pos HE.out, ← HI.out]
          exact bind_end (by have := HO3.out; rwa [← flat_app] at this) (by simp only [List.length_append, List.length_take, List.length_drop]; have h2 := HL.out; omega)
        · have hci : i + 1 < cap := by omega
          clear hc
          obtain ⟨v3, w6, hr3, ho3, hg3⟩ := run_app HO1.out (some ⟨g, (i + 1) * 2, none⟩) (n - (i + 1)) (cap - (i + 1)) (flat (L.drop (i + 1))) (by have h := flat_len (L.drop (i + 1)); rw [List.length_drop] at h; have h2 := HL.out; omega) (.inr ⟨_, rfl, HR4.out.drop hin2⟩) (flat_one _) (by omega) (by omega) 42
          rw [show i + (n - (i + 1)) = n - 1 by omega] at ho3
          obtain ⟨y3, c3, rfl⟩ := owns_slice ho3
          have H6 := Lib.hid (H4.out.grown hg3 (fun j hj => (HO1.out.lt j hj).1))
          have HO3 := Lib.hid ho3
          have R3 := Lib.hid hr3
          have cr6 := H6.out.res.cell
          have fr6 := H6.out.res.frozen
          clear hr3 ho3 hg3
          go_wp2_with (first | (at_builtin; refine wpList_app _ rfl _ _ rfl rfl _ _ _ _ rfl rfl R1.out ?_; clear R1) | (at_builtin; refine wpList_app _ rfl _ _ rfl rfl _ _ _ _ rfl rfl R3.out ?_; clear R3))
          refine bodyPost_ret (results_cell_tmp rfl _ _ (w.heap.size + 2) 44 #[.slice y3 (n - 1) c3] (0, 0) _ rfl (H6.out.done _).1 Try.underlying44 rfl (by kernel_rfl)) rfl ?_
          refine ⟨y3, _, c3, by rw [HE.out]; rfl, ?_, (H6.out.done _).2⟩
          rw [dropL, if_pos HE.out, ← HI.out]
          exact bind_end (by have := HO3.out; rwa [← flat_app] at this) (by simp only [List.length_append, List.length_take, List.length_drop]; have h2 := HL.out; omega)
def actR (L : List Bd) (n : List UInt8) : Int := if dropOk L n = true then (bn L (plc L (mkS n))).2 else 0
set_option maxRecDepth 100000 in
set_option maxHeartbeats 16000000 in
theorem wactR {w : World} {x : Option Addr} {n cap : Nat} {L : List Bd} (h : RowB w x n cap L) (hz : Sized L) (hn : n ≤ 100000) (k : Ky) (hk : k.In) :
    Calls Try.prog 30 #[.agg #[.slice x n cap], k.v] w fun e w' => e = .returned (.tuple #[.int .i64 (actR L k.name), .bool (dropOk L k.name)]) ∧ Below w.heap.size w w' := by
  have HR := Lib.hid h
  have HZ := Lib.hid hz
  have HN := Lib.hid (fun W => wnameRS k hk W)
  have HS := Lib.hid (name_sz k hk)
  have HL := Lib.hid h.1
  have hnc := h.2.1
  have HNN := Lib.hid hn
  obtain ⟨nm, hnm⟩ : ∃ nm, nm = k.name := ⟨_, rfl⟩
  rw [← hnm] at HN HS ⊢
  clear h hk hnm hz
  obtain ⟨kc, ks, kn, kal, ksh, kct⟩ := k
  unfold Ky.v at HN ⊢
  simp only [] at HN
  have hb0 := Lib.hid ((Boxed.new w 44 (.slice x n cap)).alloc (.cells #[.int .i64 kc, .string ks, .int .i64 kn, .bool kal, .bool ksh, .bool kct] 27))
  have HB0 := Lib.hid (((Below.refl w.heap.size w).alloc (Nat.le_refl _) (.cells #[.slice x n cap] 44)).alloc (by simp) (.cells #[.int .i64 kc, .string ks, .int .i64 kn, .bool kal, .bool ksh, .bool kct] 27))
  go_enter Try.func30, Try.ntmps30
  go_wp2_with (first | (go_at_call 18; fail))
  go_at_call 18
  refine (HN.out _).mono ?_
  rintro e w1 ⟨rfl, hb1⟩
  have H1 : Hid (Boxed w1 w.heap.size 44 (.slice x n cap)) := (hb1.block _ hb0.out.lt).trans hb0.out
  have HB1 := Lib.hid (HB0.out.trans (below_le hb1 HB0.out.size))
  have cm := H1.out.cell
  clear hb1 HB0 hb0
  go_wp2_with (first | (go_at_call 51; fail))
  go_at_call 51
  refine (wplace (HR.out.below HB1.out) HZ.out HNN.out (mkS nm) HS.out).mono ?_
  rintro e w3 ⟨rfl, hb3⟩
  have H3 : Hid (Boxed w3 w.heap.size 44 (.slice x n cap)) := (hb3.block _ H1.out.lt).trans H1.out
  have HB3 := Lib.hid (HB1.out.trans (below_le hb3 HB1.out.size))
  clear hb3 H1 cm HB1
  have cm := H3.out.cell
  have HR3 := Lib.hid (HR.out.below HB3.out)
  obtain ⟨i, hi⟩ : ∃ i, i = plc L (mkS nm) := ⟨_, rfl⟩
  obtain ⟨ok, hok⟩ : ∃ ok, ok = isAt L (mkS nm) := ⟨_, rfl⟩
  rw [← hi, ← hok]
  have HI := Lib.hid hi
  have HOK := Lib.hid hok
  clear hi hok
  by_cases hn0 : nm = []
  · have t1 : (mkS nm).toList.isEmpty = true := by rw [mkS_empty]; exact decide_eq_true hn0
    have HE := Lib.hid (show dropOk L nm = false by rw [dropOk, decide_eq_true hn0]; rfl)
    clear hn0
    go_wp2
    go_ret2
    exact ⟨by rw [actR, HE.out]; rfl, HB3.out⟩
  · have t1 : (mkS nm).toList.isEmpty = false := by rw [mkS_empty]; exact decide_eq_false hn0
    have HN0 := Lib.hid hn0
    clear hn0
    cases ok
    · have HE := Lib.hid (show dropOk L nm = false by rw [dropOk, ← HOK.out, Bool.and_false])
      go_wp2
      go_ret2
      exact ⟨by rw [actR, HE.out]; rfl, HB3.out⟩
    · have HE := Lib.hid (show dropOk L nm = true by rw [dropOk, ← HOK.out, decide_eq_false HN0.out]; rfl)
      have hin2 : i < n := by
        have h := HOK.out.symm
        unfold isAt at h
        simp only [Bool.and_eq_true, decide_eq_true_eq] at h
        rw [← HI.out, ← HL.out] at h
        exact h.1
      obtain ⟨g, rfl, hg, hc1, hc2⟩ := HR3.out.cells hin2
      go_wp2
      go_ret2
      exact ⟨by rw [actR, if_pos HE.out, HE.out, ← HI.out]; rfl, HB3.out⟩
end Go.Proofs.Ythkcfdnenbboaaa
