/- Walk: Style of the program. -/
import Derived.Test.YtlhfdpeidlbomaaDoorT6
namespace Go.Proofs.YtlhfdpeidlbomaaDoor
open Go.RowKit Go.Shelf
/-- The library's variable, of which all that is known is that it holds a number. -/
def MaxLn (w : World) : Prop := ∃ m, w.cell? ⟨0, 0, none⟩ = some (.int .i64 m)
theorem MaxLn.lt {w : World} (h : MaxLn w) : 0 < w.heap.size := by
  obtain ⟨m, h⟩ := h
  rcases Nat.eq_zero_or_pos w.heap.size with q | q
  · have : w.heap = #[] := Array.size_eq_zero_iff.1 q
    simp [World.cell?, this] at h
  · exact q
theorem MaxLn.kept {w w' : World} (h : MaxLn w) {n : Nat} (hn : 0 < n) (hb : Below n w w') : MaxLn w' := by
  obtain ⟨m, h⟩ := h
  exact ⟨m, (hb.cell (p := ⟨0, 0, none⟩) hn).trans h⟩
theorem wsplit (s : Bs) (hs : s.length ≤ 1000000) (w : World) (hm : MaxLn w) : Calls Tryd.prog 27 #[.string (tx s), .string ⟨#[32]⟩] w fun e w' => e = .returned (.slice (some ⟨w.heap.size, 0, none⟩) (sp s).length (sp s).length) ∧ w' = w.alloc (.cells (strVs (sp s)).toArray 9) := by
  obtain ⟨m, hm⟩ := hm
  have h := Tryd.strings_Split (tx s) (tx [32]) m w (by simp [tx, ByteArray.size]; omega) hm (by decide)
  have e := splitB_sp (tx s)
  have hl : Lib.countB (tx s) (tx [32]) + 1 = (sp s).length := by
    have := Lib.splitB_all (tx [32]) (by decide) 0 _ (tx s) rfl
    rw [e, List.length_map] at this
    exact this.symm
  rw [e, hl, List.map_map] at h
  exact h
structure SS (w : World) (s : Bs) (k : Nat) (wx : World) : Prop where
  res : StyAt wx w.heap.size sty0
  box : StyAt wx (w.heap.size + 1) (((sp s).take k).foldl withW sty0)
  row : wx.heap[w.heap.size + 2]? = some (.cells (strVs (sp s)).toArray 9 (0, 0))
  bel : Below w.heap.size w wx
theorem SS.start (w : World) (s : Bs) : SS w s 0 (((w.alloc (.cells (styCells sty0) 23)).alloc (.cells (styCells sty0) 23)).alloc (.cells (strVs (sp s)).toArray 9)) := by
  refine ⟨?_, ?_, ?_, (((Below.refl w.heap.size w).alloc (Nat.le_refl _) _).alloc (by simp) _).alloc (by simp; omega) _⟩
  · exact (heap_alloc_old _ _ (by simp; omega)).trans ((heap_alloc_old _ _ (by simp)).trans (heap_alloc_new _ _))
  · have := heap_alloc_new (w.alloc (.cells (styCells sty0) 23)) (.cells (styCells sty0) 23)
    simp only [World.size_alloc] at this
    exact (heap_alloc_old _ _ (by simp)).trans this
  · have := heap_alloc_new ((w.alloc (.cells (styCells sty0) 23)).alloc (.cells (styCells sty0) 23)) (.cells (strVs (sp s)).toArray 9)
    simpa using this
theorem five_other {w : World} {b j : Nat} (h : j ≠ b) {v0 v1 v2 v3 v4 : Value} : (((((w.setCell ⟨b, 0, none⟩ v0).setCell ⟨b, 1, none⟩ v1).setCell ⟨b, 2, none⟩ v2).setCell ⟨b, 3, none⟩ v3).setCell ⟨b, 4, none⟩ v4).heap[j]? = w.heap[j]? := by
  rw [set_other h, set_other h, set_other h, set_other h, set_other h]
theorem SS.step {w wr w4 : World} {s : Bs} {k : Nat} (h : SS w s k wr) (hb : Below wr.heap.size wr w4) (Z : Sty) (hz : ((sp s).take (k + 1)).foldl withW sty0 = Z) :
    SS w s (k + 1) (((((w4.setCell ⟨w.heap.size + 1, 0, none⟩ (.bool Z.b)).setCell ⟨w.heap.size + 1, 1, none⟩ (.bool Z.u)).setCell ⟨w.heap.size + 1, 2, none⟩ (.bool Z.i)).setCell ⟨w.heap.size + 1, 3, none⟩ (.int .i64 Z.f)).setCell ⟨w.heap.size + 1, 4, none⟩ (.int .i64 Z.g)) := by
  have b4 := h.box.kept h.box.get.2.2.2.2.2.2 hb
  refine ⟨?_, ?_, ?_, ?_⟩
  · unfold StyAt
    rw [five_other (by omega)]
    exact h.res.kept h.res.get.2.2.2.2.2.2 hb
  · rw [hz]; exact b4.stored Z
  · rw [five_other (by omega)]
    exact (hb.block _ ((Array.getElem?_eq_some_iff.1 h.row).1)).trans h.row
  · exact below_stored (h.bel.trans (below_le hb h.bel.size)) (by omega)
def StyleEnd (s : Bs) (w : World) (e : Ending) (w' : World) : Prop := e = .returned (.tuple #[(styS s).v, .int .i64 (errS s)]) ∧ Below w.heap.size w w'
theorem sp_len (s : Bs) : (sp s).length ≤ s.length + 1 := by
  induction s with
  | nil => simp [sp]
  | cons c l ih =>
    unfold sp
    split
    · simp; omega
    · split
      · simp
      · rename_i h t e; rw [e] at ih; simp at ih ⊢; omega
set_option maxRecDepth 100000 in
set_option maxHeartbeats 4000000 in
theorem wstyle (s : Bs) (hs : s.length ≤ 1000000) (w : World) (hm : MaxLn w) : Calls Tryd.prog 9 #[.string (tx s)] w (StyleEnd s w) := by
  have HW := Lib.hid (fun W => wsplit s hs W)
  have HM := Lib.hid (hm.kept hm.lt (((Below.refl w.heap.size w).alloc (Nat.le_refl _) (.cells (styCells sty0) 23)).alloc (by simp) (.cells (styCells sty0) 23)))
  have HM0 := Lib.hid hm
  have H0 := Lib.hid (SS.start w s)
  have hn := sp_len s
  obtain ⟨n, hnn⟩ : ∃ n, n = (sp s).length := ⟨_, rfl⟩
  rw [← hnn] at HW hn
  have HN := Lib.hid hnn
  clear hnn hm
  unfold styCells sty0 at HM
  simp only [] at HM
  go_enter Tryd.func9, Tryd.ntmps9
  go_wp2_with (first | (go_at_call 27; fail))
  go_at_call 27
  refine (HW.out _ HM.out).mono ?_
  rintro e w3 ⟨rfl, rfl⟩
  clear HM HW
  unfold styCells sty0 at H0
  simp only [] at H0
  simp only [World.size_alloc]
  generalize (((w.alloc (.cells #[.bool false, .bool false, .bool false, .int .i64 0, .int .i64 0] 23)).alloc (.cells #[.bool false, .bool false, .bool false, .int .i64 0, .int .i64 0] 23)).alloc (.cells (strVs (sp s)).toArray 9)) = w3 at H0 ⊢
  go_wp2
  go_loopw [12] (fun i wr => ∃ k : Nat, k ≤ n ∧ i = .int .i64 k ∧ Hid (SS w s k wr)) (fun i _ => n - (intOf i).toNat)
  case atStart => exact ⟨0, Nat.zero_le _, rfl, H0⟩
  case round =>
    clear H0
    obtain ⟨k, hk, rfl, HS⟩ := hrel
    by_cases hlt : k < n
    · have hcell : wr.cell? ⟨w.heap.size + 1 + 1, k, none⟩ = some (.string (tx ((sp s).getD k []))) := by
        have hrow := HS.out.row
        have hkl : k < (sp s).length := by rw [← HN.out]; exact hlt
        have e : (strVs (sp s))[k]? = some (.string (tx ((sp s).getD k []))) := by
          rw [strVs, List.getElem?_map, List.getD_eq_getElem?_getD, List.getElem?_eq_getElem hkl]; rfl
        simpa [World.cell?, hrow] using e
      obtain ⟨W, hW⟩ : ∃ W, W = (sp s).getD k [] := ⟨_, rfl⟩
      obtain ⟨Y, hY⟩ : ∃ Y, Y = ((sp s).take k).foldl withW sty0 := ⟨_, rfl⟩
      have hY2 : ((sp s).take (k + 1)).foldl withW sty0 = withW Y W := by
        have hkl : k < (sp s).length := by rw [← HN.out]; exact hlt
        rw [List.take_succ_eq_append_getElem hkl, List.foldl_append, ← hY, hW, List.getD_eq_getElem?_getD, List.getElem?_eq_getElem hkl]
        rfl
      have hbox := HS.out.box
      rw [← hW] at hcell
      rw [← hY] at hbox
      have HB := Lib.hid hbox
      have HY2 := Lib.hid hY2
      have HWW := Lib.hid (fun V => wwith Y W V)
      obtain ⟨Z, hZ⟩ : ∃ Z, Z = withW Y W := ⟨_, rfl⟩
      unfold WithEnd at HWW
      rw [← hZ] at HWW HY2
      clear hW hY hY2 hbox hZ
      obtain ⟨c0, c1, c2, c3, c4, cf, _⟩ := HB.out.get
      clear cf
      obtain ⟨yb, yu, yi, yf, yg⟩ := Y
      unfold Sty.v at HWW
      simp only [] at c0 c1 c2 c3 c4 HWW
      go_wp2_with (first | (go_at_call 28; fail))
      go_at_call 28
      refine (HWW.out _).mono ?_
      rintro e w4 ⟨rfl, hb4⟩
      have HST := Lib.hid (HS.out.step hb4 Z HY2.out)
      obtain ⟨d0, d1, d2, d3, d4, df, _⟩ := (HB.out.kept HB.out.get.2.2.2.2.2.2 hb4).get
      have f0 := df 0
      have f1 := df 1
      have f2 := df 2
      have f3 := df 3
      have f4 := df 4
      clear df hb4 c0 c1 c2 c3 c4 hcell
      go_wp2
      go_roundw
      case rel => exact ⟨k + 1, by omega, by go_num, HST⟩
      case measure => simp [intOf]; omega
    · have hkn : k = n := by omega
      have hbox := HS.out.box
      rw [List.take_of_length_le (by rw [← HN.out, hkn]; exact Nat.le_refl _)] at hbox
      have HB : Hid (StyAt wr (w.heap.size + 1) (parse s)) := Lib.hid hbox
      have HWW := Lib.hid (fun V => wwords (parse s) (parse_may s) V)
      have HK := Lib.hid (show okS s = decide (wordsL (parse s) = s) from rfl)
      have HSY := Lib.hid (show styS s = if okS s = true then parse s else sty0 from rfl)
      have HER := Lib.hid (show errS s = if okS s = true then 0 else 310 from rfl)
      obtain ⟨Y, hY⟩ : ∃ Y, Y = parse s := ⟨_, rfl⟩
      rw [← hY] at HB HWW HK HSY
      clear hbox hY hkn
      obtain ⟨c0, c1, c2, c3, c4, cf, _⟩ := HB.out.get
      clear cf
      obtain ⟨yb, yu, yi, yf, yg⟩ := Y
      unfold Sty.v at HWW
      simp only [] at c0 c1 c2 c3 c4 HWW
      go_wp2_with (first | (go_at_call 7; fail))
      go_at_call 7
      refine (HWW.out _).mono ?_
      rintro e w4 ⟨rfl, hb4⟩
      have HR4 := Lib.hid (HS.out.res.kept HS.out.res.get.2.2.2.2.2.2 hb4)
      have HB4 := Lib.hid (HB.out.kept HB.out.get.2.2.2.2.2.2 hb4)
      have HBL := Lib.hid (HS.out.bel.trans (below_le hb4 HS.out.bel.size))
      clear c0 c1 c2 c3 c4 hb4 HB HWW HS
      obtain ⟨c0, c1, c2, c3, c4, cf, _⟩ := HB4.out.get
      obtain ⟨d0, d1, d2, d3, d4, df, _⟩ := HR4.out.get
      have f0 := df 0
      have f1 := df 1
      have f2 := df 2
      have f3 := df 3
      have f4 := df 4
      clear cf df
      have t1 : ((tx (wordsL ⟨yb, yu, yi, yf, yg⟩)).toList == (tx s).toList) = okS s := by
        rw [beq_bytes, HK.out, Bool.eq_iff_iff, decide_eq_true_eq, decide_eq_true_eq]
        exact ⟨tx_inj, fun e => by rw [e]⟩
      obtain ⟨T, hT⟩ : ∃ T, T = tx (wordsL ⟨yb, yu, yi, yf, yg⟩) := ⟨_, rfl⟩
      rw [← hT] at t1 ⊢
      clear hT
      cases ho : okS s
      · rw [ho] at t1
        have hE : errS s = 310 := by rw [HER.out, ho]; rfl
        have hS : styS s = sty0 := by rw [HSY.out, ho]; rfl
        have HE := Lib.hid hE
        have HS := Lib.hid hS
        clear ho hE hS HK HSY HER
        have HR := Lib.hid (HR4.out.stored sty0)
        have HB := Lib.hid (below_stored HBL.out (b := w.heap.size) (Nat.le_refl _) (v0 := .bool sty0.b) (v1 := .bool sty0.u) (v2 := .bool sty0.i) (v3 := .int .i64 sty0.f) (v4 := .int .i64 sty0.g))
        go_wp2
        refine bodyPost_ret (results_cell_tmp rfl _ _ (w.heap.size) 23 (styCells sty0) (0, 0) _ rfl HR.out Tryd.underlying23 rfl (by kernel_rfl)) rfl ?_
        exact ⟨by rw [HS.out, HE.out]; rfl, HB.out⟩
      · rw [ho] at t1
        have hE : errS s = 0 := by rw [HER.out, ho]; rfl
        have hS : styS s = ⟨yb, yu, yi, yf, yg⟩ := by rw [HSY.out, ho]; rfl
        have HE := Lib.hid hE
        have HS := Lib.hid hS
        clear ho hE hS HK HSY HER
        have HR := Lib.hid (HR4.out.stored ⟨yb, yu, yi, yf, yg⟩)
        have HB := Lib.hid (below_stored HBL.out (b := w.heap.size) (Nat.le_refl _) (v0 := .bool yb) (v1 := .bool yu) (v2 := .bool yi) (v3 := .int .i64 yf) (v4 := .int .i64 yg))
        go_wp2
        refine bodyPost_ret (results_cell_tmp rfl _ _ (w.heap.size) 23 (styCells ⟨yb, yu, yi, yf, yg⟩) (0, 0) _ rfl HR.out Tryd.underlying23 rfl (by kernel_rfl)) rfl ?_
        exact ⟨by rw [HS.out, HE.out]; rfl, HB.out⟩
end Go.Proofs.YtlhfdpeidlbomaaDoor
