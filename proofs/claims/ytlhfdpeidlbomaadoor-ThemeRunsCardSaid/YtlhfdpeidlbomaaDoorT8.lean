/- Walk: Style of the reference. -/
import Derived.Test.YtlhfdpeidlbomaaDoorT7
namespace Go.Proofs.YtlhfdpeidlbomaaDoor
open Go.RowKit Go.Shelf
structure SR (w : World) (wx : World) : Prop where
  res : StyAt wx w.heap.size sty0
  bel : Below w.heap.size w wx
theorem SR.kept {w w1 w2 : World} (h : SR w w1) (hb : Below w1.heap.size w1 w2) : SR w w2 := ⟨h.res.kept h.res.get.2.2.2.2.2.2 hb, h.bel.trans (below_le hb h.bel.size)⟩
theorem SR.start (w : World) : SR w (w.alloc (.cells (styCells sty0) 23)) := ⟨heap_alloc_new _ _, (Below.refl w.heap.size w).alloc (Nat.le_refl _) _⟩
theorem yi_int (k : Nat) : yi k = ⟨((k : Int) % 2 == 1), ((k : Int) / 2 % 2 == 1), ((k : Int) / 4 % 2 == 1), (k : Int) / 8 % 9, (k : Int) / 72⟩ := by
  have h : ∀ n : Nat, (n == 1) = ((n : Int) == 1) := fun n => by rw [Bool.eq_iff_iff, beq_iff_eq, beq_iff_eq]; omega
  unfold yi
  rw [h, h, h]
  simp
set_option maxRecDepth 100000 in
set_option maxHeartbeats 4000000 in
theorem wstyleR (s : Bs) (w : World) : Calls Tryd.prog 10 #[.string (tx s)] w (StyleEnd s w) := by
  have H0 := Lib.hid (SR.start w)
  unfold styCells sty0 at H0
  simp only [] at H0
  go_enter Tryd.func10, Tryd.ntmps10
  go_wp2
  generalize w.alloc (.cells #[.bool false, .bool false, .bool false, .int .i64 0, .int .i64 0] 23) = w1 at H0 ⊢
  go_loopw [4] (fun i wr => ∃ k : Nat, k ≤ 648 ∧ i = .int .i64 k ∧ Hid (SR w wr ∧ ∀ j, j < k → wordsL (yi j) ≠ s)) (fun i _ => 648 - (intOf i).toNat)
  case atStart => exact ⟨0, Nat.zero_le _, rfl, Lib.hid ⟨H0.out, fun j hj => absurd hj (Nat.not_lt_zero _)⟩⟩
  case round =>
    clear H0
    obtain ⟨k, hk, rfl, HS⟩ := hrel
    by_cases hlt : k < 648
    · have HYI := Lib.hid (yi_int k)
      go_wp2_with (first | (go_at_call 8; fail))
      have hyi := HYI.out
      clear HYI
      generalize ((k : Int) % 2 == 1) = B0 at hyi ⊢
      generalize ((k : Int) / 2 % 2 == 1) = B1 at hyi ⊢
      generalize ((k : Int) / 4 % 2 == 1) = B2 at hyi ⊢
      generalize ((k : Int) / 8 % 9) = F at hyi ⊢
      generalize ((k : Int) / 72) = G at hyi ⊢
      have hmay := yi_may k hlt
      rw [hyi] at hmay
      have HYI := Lib.hid hyi
      have HWW := Lib.hid (fun V => wwordsR ⟨B0, B1, B2, F, G⟩ hmay V)
      unfold Sty.v at HWW
      simp only [] at HWW
      clear hyi hmay
      refine (HWW.out _).mono ?_
      rintro e w4 ⟨rfl, hb4⟩
      have HS4 := Lib.hid (And.intro ((HS.out.1.kept ((Below.refl wr.heap.size wr).alloc (Nat.le_refl _) _)).kept hb4) HS.out.2)
      have HB4 : Hid (StyAt w4 wr.heap.size ⟨B0, B1, B2, F, G⟩) := Lib.hid ((hb4.block _ (by simp)).trans (heap_alloc_new _ _))
      clear hb4 HWW HS
      have hw : wordsL (yi k) = wordsL ⟨B0, B1, B2, F, G⟩ := by rw [HYI.out]
      obtain ⟨W, hW⟩ : ∃ W, W = wordsL ⟨B0, B1, B2, F, G⟩ := ⟨_, rfl⟩
      rw [← hW] at hw ⊢
      clear hW
      have HW := Lib.hid hw
      clear hw
      by_cases hq : W = s
      · have t1 : ((tx W).toList == (tx s).toList) = true := by rw [beq_bytes, hq]; exact decide_eq_true rfl
        have HF := Lib.hid (styS_found s k hlt (by rw [HW.out, hq]))
        clear hq
        generalize tx W = T at t1 ⊢
        obtain ⟨c0, c1, c2, c3, c4, _, _⟩ := HB4.out.get
        obtain ⟨d0, d1, d2, d3, d4, df, _⟩ := HS4.out.1.res.get
        have f0 := df 0
        have f1 := df 1
        have f2 := df 2
        have f3 := df 3
        have f4 := df 4
        clear df
        simp only [] at c0 c1 c2 c3 c4
        have HR := Lib.hid (HS4.out.1.res.stored ⟨B0, B1, B2, F, G⟩)
        have HB := Lib.hid (below_stored HS4.out.1.bel (b := w.heap.size) (Nat.le_refl _) (v0 := .bool B0) (v1 := .bool B1) (v2 := .bool B2) (v3 := .int .i64 F) (v4 := .int .i64 G))
        go_wp2
        refine bodyPost_ret (results_cell_tmp rfl _ _ (w.heap.size) 23 (styCells ⟨B0, B1, B2, F, G⟩) (0, 0) _ rfl HR.out Tryd.underlying23 rfl (by kernel_rfl)) rfl ?_
        exact ⟨by rw [HF.out.2.1, HF.out.2.2, HYI.out]; rfl, HB.out⟩
      · have t1 : ((tx W).toList == (tx s).toList) = false := by rw [beq_bytes]; exact decide_eq_false (fun e => hq (tx_inj e))
        have HQ := Lib.hid hq
        clear hq
        generalize hT : tx W = T at t1 ⊢
        clear hT
        go_wp2
        go_roundw
        case rel => exact ⟨k + 1, by omega, by go_num, Lib.hid ⟨HS4.out.1, fun j hj => by
          by_cases e : j = k
          · rw [e, HW.out]; exact HQ.out
          · exact HS4.out.2 j (by omega)⟩⟩
        case measure => simp [intOf]; omega
    · have hkn : k = 648 := by omega
      have HF := Lib.hid (styS_none s (fun j hj => HS.out.2 j (by omega)))
      subst hkn
      clear hlt hk
      obtain ⟨d0, d1, d2, d3, d4, df, _⟩ := HS.out.1.res.get
      have f0 := df 0
      have f1 := df 1
      have f2 := df 2
      have f3 := df 3
      have f4 := df 4
      clear df
      have HR := Lib.hid (HS.out.1.res.stored sty0)
      have HB := Lib.hid (below_stored HS.out.1.bel (b := w.heap.size) (Nat.le_refl _) (v0 := .bool sty0.b) (v1 := .bool sty0.u) (v2 := .bool sty0.i) (v3 := .int .i64 sty0.f) (v4 := .int .i64 sty0.g))
      go_wp2
      refine bodyPost_ret (results_cell_tmp rfl _ _ (w.heap.size) 23 (styCells sty0) (0, 0) _ rfl HR.out Tryd.underlying23 rfl (by kernel_rfl)) rfl ?_
      exact ⟨by rw [HF.out.2.1, HF.out.2.2]; rfl, HB.out⟩
end Go.Proofs.YtlhfdpeidlbomaaDoor
