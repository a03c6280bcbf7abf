/- Walk: Words of the program. -/
import Derived.Test.YtlhfdpeidlbomaaDoorT3
namespace Go.Proofs.YtlhfdpeidlbomaaDoor
open Go.RowKit Go.Shelf
theorem info_parts9 : ∃ i0, Tryd.prog.info? 9 = some i0 ∧ i0.zero = some (.string ⟨#[]⟩) ∧ i0.size = 1 ∧ i0.bytes = 16 :=
  info_parts (show (Tryd.prog.info? 9).map (fun i => (i.zero, i.size, i.bytes)) = some (some (.string ⟨#[]⟩), 1, 16) by kernel_rfl)
def strVs (ws : List Bs) : List Value := ws.map (fun l => .string (tx l))
/-- The state of Words: the style in its box, the words so far. -/
structure WS (w : World) (y : Sty) (N : Nat) (ws : List Bs) (v : Value) (wx : World) : Prop where
  box : StyAt wx w.heap.size y
  row : wx.ownsRow (w.heap.size + 1) 9 1 v ws.length (strVs ws)
  bel : Below w.heap.size w wx
  len : w.heap.size + 1 ≤ wx.heap.size
  few : ws.length ≤ N ∧ N ≤ 5
theorem WS.app {w wx w1 : World} {y : Sty} {N : Nat} {ws ws' : List Bs} {v v' : Value} {o : Obj} (h : WS w y N ws v wx) (l : Bs) (hown : w1.ownsRow (w.heap.size + 1) 9 1 v' (ws.length + 1) (strVs ws ++ [.string (tx l)])) (hg : (wx.alloc o).grownBy w1 v.ownBlock) (e : ws' = ws ++ [l]) (hf : N ≤ 4) : WS w y (N + 1) ws' v' w1 := by
  subst e
  have hne : ∀ j, j < w.heap.size + 1 → some j ≠ v.ownBlock := fun j hj q => by have := (h.row.lt j q.symm).1; omega
  refine ⟨?_, by simpa [strVs] using hown, ?_, ?_, by have := h.few; simp; omega⟩
  · unfold StyAt
    rw [hg.block _ (by have := h.len; simp; omega) (hne _ (by omega))]
    exact (heap_alloc_old _ _ (by have := h.len; omega)).trans h.box
  · exact (h.bel.alloc h.bel.size _).grown hg (by have := h.len; simp; omega) (fun k hk => by have := (h.row.lt k hk).1; omega)
  · have := hg.size; have := h.len; simp at *; omega
theorem WS.up {w wx : World} {y : Sty} {N : Nat} {ws : List Bs} {v : Value} (h : WS w y N ws v wx) (hf : N ≤ 4) : WS w y (N + 1) ws v wx := ⟨h.box, h.row, h.bel, h.len, by have := h.few; omega⟩
set_option maxRecDepth 100000 in
set_option maxHeartbeats 4000000 in
theorem wwords (y : Sty) (h : y.may) (w : World) : Calls Tryd.prog 7 #[y.v] w fun e w' => e = .returned (.tuple #[.string (tx (wordsL y)), .int .i64 0]) ∧ Below w.heap.size w w' := by
  have HM := Lib.hid h
  have HY := Lib.hid (fun W => wmay y W)
  have hmb : mayB y = true := decide_eq_true h
  rw [hmb] at HY
  clear h hmb
  obtain ⟨i0, hi, hz0, hz1, hz2⟩ := info_parts9
  obtain ⟨b, u, i, f, g⟩ := y
  have hf : 0 ≤ f ∧ f ≤ 8 := ⟨HM.out.1, HM.out.2.1⟩
  have hg : 0 ≤ g ∧ g ≤ 8 := HM.out.2.2
  unfold Sty.v at HY ⊢
  simp only [] at HY ⊢
  go_enter Tryd.func7, Tryd.ntmps7
  go_wp2_with (first | (go_at_call 22; fail))
  go_at_call 22
  refine (HY.out _).mono ?_
  rintro e w1 ⟨rfl, hb1⟩
  have H0 : Hid (WS w ⟨b, u, i, f, g⟩ 0 [] (.slice none 0 0) w1) := Lib.hid ⟨StyAt.kept (heap_alloc_new _ _) (by simp) hb1, ⟨rfl, .inl ⟨rfl, rfl⟩⟩, ((Below.refl w.heap.size w).alloc (Nat.le_refl _) _).trans (below_le hb1 (by simp)), by have := hb1.size; simp at this; omega, by simp⟩
  clear hb1 HY
  obtain ⟨ws1, hws1⟩ : ∃ x, x = [] ++ (if b then [boldL] else []) := ⟨_, rfl⟩
  have HW1 := Lib.hid hws1
  clear hws1
  obtain ⟨c0, c1, c2, c3, c4, _⟩ := H0.out.box.get
  simp only [] at c0 c1 c2 c3 c4
  go_upto_if 9 with (fail)
  go_cut [4] (fun t wx => Hid (WS w ⟨b, u, i, f, g⟩ 1 ws1 t wx))
  case first =>
    cases b
    · go_wp2
      go_meet
      rw [show ws1 = [] by rw [HW1.out]; simp]
      exact Lib.hid (H0.out.up (by omega))
    · go_wp2_with (at_builtin; go_loud (refine wpList_append_own _ rfl _ _ 57 rfl (w.heap.size + 1) 9 i0 (.string ⟨#[]⟩) 1 16 Tryd.underlying57 hi hz0 hz1 hz2 rfl (by decide) _ _ _ rfl (H0.out.row.alloc _) ⟨w1.heap.size, 0, none⟩ 1 1 [.string (tx boldL)] rfl rfl (cell_one_new _ _ _) (by simp [Value.oneCell']) (by have := H0.out.few; unfold maxLen; omega) (by have := H0.out.few; omega) (by have := H0.out.len; simp; omega) ?_))
      intro v1 w2 hown1 hgrow1 _
      go_wp2
      go_meet
      exact Lib.hid (H0.out.app boldL hown1 hgrow1 (by rw [HW1.out]; simp) (by omega))
  clear c0 c1 c2 c3 c4 H0
  rename World => w2x
  have H1 := hcut
  clear hcut
  obtain ⟨ws2, hws2⟩ : ∃ x, x = ws1 ++ (if u then [underL] else []) := ⟨_, rfl⟩
  have HW2 := Lib.hid hws2
  clear hws2
  obtain ⟨c0, c1, c2, c3, c4, _⟩ := H1.out.box.get
  simp only [] at c0 c1 c2 c3 c4
  go_upto_if 14 with (fail)
  go_cut [4] (fun t wx => Hid (WS w ⟨b, u, i, f, g⟩ 2 ws2 t wx))
  case first =>
    cases u
    · go_wp2
      go_meet
      rw [show ws2 = ws1 by rw [HW2.out]; simp]
      exact Lib.hid (H1.out.up (by omega))
    · go_wp2_with (at_builtin; go_loud (refine wpList_append_own _ rfl _ _ 57 rfl (w.heap.size + 1) 9 i0 (.string ⟨#[]⟩) 1 16 Tryd.underlying57 hi hz0 hz1 hz2 rfl (by decide) _ _ _ rfl (H1.out.row.alloc _) ⟨w2x.heap.size, 0, none⟩ 1 1 [.string (tx underL)] rfl rfl (cell_one_new _ _ _) (by simp [Value.oneCell']) (by have := H1.out.few; unfold maxLen; omega) (by have := H1.out.few; omega) (by have := H1.out.len; simp; omega) ?_))
      intro v1 w2 hown1 hgrow1 _
      go_wp2
      go_meet
      exact Lib.hid (H1.out.app underL hown1 hgrow1 (by rw [HW2.out]; simp) (by omega))
  clear c0 c1 c2 c3 c4 H1
  rename World => w3x
  have H2 := hcut
  clear hcut
  obtain ⟨ws3, hws3⟩ : ∃ x, x = ws2 ++ (if i then [inverseL] else []) := ⟨_, rfl⟩
  have HW3 := Lib.hid hws3
  clear hws3
  obtain ⟨c0, c1, c2, c3, c4, _⟩ := H2.out.box.get
  simp only [] at c0 c1 c2 c3 c4
  go_upto_if 19 with (fail)
  go_cut [4] (fun t wx => Hid (WS w ⟨b, u, i, f, g⟩ 3 ws3 t wx))
  case first =>
    cases i
    · go_wp2
      go_meet
      rw [show ws3 = ws2 by rw [HW3.out]; simp]
      exact Lib.hid (H2.out.up (by omega))
    · go_wp2_with (at_builtin; go_loud (refine wpList_append_own _ rfl _ _ 57 rfl (w.heap.size + 1) 9 i0 (.string ⟨#[]⟩) 1 16 Tryd.underlying57 hi hz0 hz1 hz2 rfl (by decide) _ _ _ rfl (H2.out.row.alloc _) ⟨w3x.heap.size, 0, none⟩ 1 1 [.string (tx inverseL)] rfl rfl (cell_one_new _ _ _) (by simp [Value.oneCell']) (by have := H2.out.few; unfold maxLen; omega) (by have := H2.out.few; omega) (by have := H2.out.len; simp; omega) ?_))
      intro v1 w2 hown1 hgrow1 _
      go_wp2
      go_meet
      exact Lib.hid (H2.out.app inverseL hown1 hgrow1 (by rw [HW3.out]; simp) (by omega))
  clear c0 c1 c2 c3 c4 H2
  rename World => w4x
  have H3 := hcut
  clear hcut
  obtain ⟨ws4, hws4⟩ : ∃ x, x = ws3 ++ (if 0 < f then [(fgL ++ colL f)] else []) := ⟨_, rfl⟩
  have HW4 := Lib.hid hws4
  clear hws4
  obtain ⟨c0, c1, c2, c3, c4, _⟩ := H3.out.box.get
  simp only [] at c0 c1 c2 c3 c4
  go_upto_if 25 with (fail)
  go_cut [4] (fun t wx => Hid (WS w ⟨b, u, i, f, g⟩ 4 ws4 t wx))
  case first =>
    by_cases hc : 0 < f
    · have HC := Lib.hid (fun W => wcolour f ⟨by omega, by omega⟩ W)
      have hl := colL_len f
      obtain ⟨C, hC⟩ : ∃ C, C = tx (colL f) := ⟨_, rfl⟩
      have hs : C.size ≤ 10 := by rw [hC]; simpa [tx, ByteArray.size] using hl
      rw [← hC] at HC
      have HCC := Lib.hid hC
      clear hC hl
      go_wp2_with (first | (go_at_call 23; (with_reducible refine (HC.out _).mono ?_); rintro e w' ⟨rfl, rfl⟩) | (at_builtin; go_loud (refine wpList_append_own _ rfl _ _ 57 rfl (w.heap.size + 1) 9 i0 (.string ⟨#[]⟩) 1 16 Tryd.underlying57 hi hz0 hz1 hz2 rfl (by decide) _ _ _ rfl (H3.out.row.alloc _) ⟨w4x.heap.size, 0, none⟩ 1 1 [.string (tx fgL ++ C)] rfl rfl (cell_one_new _ _ _) (by simp [Value.oneCell']) (by have := H3.out.few; unfold maxLen; omega) (by have := H3.out.few; omega) (by have := H3.out.len; simp; omega) ?_)))
      intro v1 w2 hown1 hgrow1 _
      go_wp2
      go_meet
      have e1 : tx fgL ++ C = tx (fgL ++ colL f) := by rw [HCC.out]; apply ByteArray.ext; simp [tx]
      rw [e1] at hown1
      exact Lib.hid (H3.out.app (fgL ++ colL f) hown1 hgrow1 (by rw [HW4.out, if_pos (by omega)]) (by omega))
    · go_wp2
      go_meet
      rw [show ws4 = ws3 by rw [HW4.out, if_neg (by omega)]; simp]
      exact Lib.hid (H3.out.up (by omega))
  clear c0 c1 c2 c3 c4 H3
  rename World => w5x
  have H4 := hcut
  clear hcut
  obtain ⟨ws5, hws5⟩ : ∃ x, x = ws4 ++ (if 0 < g then [(bgL ++ colL g)] else []) := ⟨_, rfl⟩
  have HW5 := Lib.hid hws5
  clear hws5
  obtain ⟨c0, c1, c2, c3, c4, _⟩ := H4.out.box.get
  simp only [] at c0 c1 c2 c3 c4
  go_upto_if 35 with (fail)
  go_cut [4] (fun t wx => Hid (WS w ⟨b, u, i, f, g⟩ 5 ws5 t wx))
  case first =>
    by_cases hc : 0 < g
    · have HC := Lib.hid (fun W => wcolour g ⟨by omega, by omega⟩ W)
      have hl := colL_len g
      obtain ⟨C, hC⟩ : ∃ C, C = tx (colL g) := ⟨_, rfl⟩
      have hs : C.size ≤ 10 := by rw [hC]; simpa [tx, ByteArray.size] using hl
      rw [← hC] at HC
      have HCC := Lib.hid hC
      clear hC hl
      go_wp2_with (first | (go_at_call 23; (with_reducible refine (HC.out _).mono ?_); rintro e w' ⟨rfl, rfl⟩) | (at_builtin; go_loud (refine wpList_append_own _ rfl _ _ 57 rfl (w.heap.size + 1) 9 i0 (.string ⟨#[]⟩) 1 16 Tryd.underlying57 hi hz0 hz1 hz2 rfl (by decide) _ _ _ rfl (H4.out.row.alloc _) ⟨w5x.heap.size, 0, none⟩ 1 1 [.string (tx bgL ++ C)] rfl rfl (cell_one_new _ _ _) (by simp [Value.oneCell']) (by have := H4.out.few; unfold maxLen; omega) (by have := H4.out.few; omega) (by have := H4.out.len; simp; omega) ?_)))
      intro v1 w2 hown1 hgrow1 _
      go_wp2
      go_meet
      have e1 : tx bgL ++ C = tx (bgL ++ colL g) := by rw [HCC.out]; apply ByteArray.ext; simp [tx]
      rw [e1] at hown1
      exact Lib.hid (H4.out.app (bgL ++ colL g) hown1 hgrow1 (by rw [HW5.out, if_pos (by omega)]) (by omega))
    · go_wp2
      go_meet
      rw [show ws5 = ws4 by rw [HW5.out, if_neg (by omega)]; simp]
      exact Lib.hid (H4.out.up (by omega))
  clear c0 c1 c2 c3 c4 H4
  rename World => w6x
  have H5 := hcut
  clear hcut
  have HX : Hid (ws5 = wl ⟨b, u, i, f, g⟩) := by
    have e : ws5 = wl ⟨b, u, i, f, g⟩ := by rw [HW5.out, HW4.out, HW3.out, HW2.out, HW1.out]; rfl
    exact Lib.hid e
  clear HW1 HW2 HW3 HW4 HW5
  rename Value => t4
  obtain ⟨hrl, hrow⟩ := H5.out.row
  have HBL := Lib.hid H5.out.bel
  have hfew := H5.out.few
  obtain ⟨n, hn⟩ : ∃ n, n = ws5.length := ⟨_, rfl⟩
  rw [← hn] at hrow hfew
  have HN := Lib.hid hn
  clear hn hrl H5
  have hz : n = 0 → wordsL ⟨b, u, i, f, g⟩ = plainL := fun q => by
    have e : ws5 = [] := List.length_eq_zero_iff.1 (by rw [← HN.out, q])
    rw [wordsL, if_pos (by rw [← HX.out, e])]
  have hp : n ≠ 0 → wordsL ⟨b, u, i, f, g⟩ = Lib.join ws5 [32] := fun q => by
    rw [wordsL, ← HX.out, if_neg (fun e => q (by rw [HN.out, e]; rfl))]
  have HZ := Lib.hid hz
  have HP := Lib.hid hp
  clear hz hp
  rcases hrow with ⟨rfl, h0⟩ | ⟨gb, cap, cur, rfl, hgb, hh, hnc, hcm, hcs, htk⟩
  · have HE := Lib.hid (HZ.out h0)
    clear h0 HZ HP HN hfew
    go_wp2
    go_ret2
    exact ⟨by rw [HE.out]; rfl, HBL.out⟩
  · by_cases h0 : n = 0
    · have HE := Lib.hid (HZ.out h0)
      clear HZ HP HN hfew htk hcs hnc
      subst h0
      go_wp2
      go_ret2
      exact ⟨by rw [HE.out]; rfl, HBL.out⟩
    · have HE := Lib.hid (HP.out h0)
      have hw5 := wl_few ⟨b, u, i, f, g⟩
      rw [← HX.out] at hw5
      have HJ := Lib.hid (wjoin gb n cap ws5 HN.out w6x (fun j hj => by
        have e : (strVs ws5)[j]? = some (.string (tx (ws5.getD j []))) := by
          have hj5 : j < ws5.length := by rw [← HN.out]; exact hj
          rw [strVs, List.getElem?_map, List.getD_eq_getElem?_getD, List.getElem?_eq_getElem hj5]; rfl
        rw [← htk, List.getElem?_take_of_lt (by omega)] at e
        simpa [World.cell?, hh] using e) ((Array.getElem?_eq_some_iff.1 hh).1) hnc (by omega) hw5.2)
      clear HZ HP HX htk hcs hh hw5 HN hfew
      have ht : ((n : Int) == 0) = false := by rw [beq_eq_false_iff_ne]; omega
      go_wp2_with (first | (go_at_call 24; (with_reducible refine HJ.out.mono ?_); rintro e w' ⟨rfl, hb7⟩))
      go_ret2
      exact ⟨by rw [HE.out]; rfl, HBL.out.trans (below_le hb7 HBL.out.size)⟩
end Go.Proofs.YtlhfdpeidlbomaaDoor
