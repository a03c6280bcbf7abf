/- Walk: Parse of the reference. -/
import Derived.Test.YtlhfdpeidlbomaaDoorTO
namespace Go.Proofs.YtlhfdpeidlbomaaDoor
open Go.RowKit Go.Shelf
theorem RLat.stored {w : World} {b : Nat} {ys : List Sty} (h : RLat w b ys) (k : Nat) (hk : k < 10) (y : Sty) :
    RLat (((((w.setCell ⟨b, k * 5, none⟩ (.bool y.b)).setCell ⟨b, k * 5 + 1, none⟩ (.bool y.u)).setCell ⟨b, k * 5 + 2, none⟩ (.bool y.i)).setCell ⟨b, k * 5 + 3, none⟩ (.int .i64 y.f)).setCell ⟨b, k * 5 + 4, none⟩ (.int .i64 y.g)) b (ys.set k y) := by
  refine ⟨?_, by rw [List.length_set]; exact h.len⟩
  rw [flatS_set ys k y (by rw [h.len]; exact hk)]
  have := set_block (o := k * 5 + 4) (set_block (o := k * 5 + 3) (set_block (o := k * 5 + 2) (set_block (o := k * 5 + 1) (set_block (o := k * 5) h.blk (.bool y.b)) (.bool y.u)) (.bool y.i)) (.int .i64 y.f)) (.int .i64 y.g)
  rw [this]
  simp
/-- The state of the reference's Parse. -/
structure QP (w : World) (g bn gl n : Nat) (ls : List Bs) (ys : List Sty) (nm : List Bool) (W : World) : Prop where
  rl : RLat W g ys
  sb : W.heap[bn]? = some (.cells (nm.map Value.bool).toArray 4 (0, 0))
  nl : nm.length = 10
  ln : ∀ j, j < n → W.cell? ⟨gl, j, none⟩ = some (.string (tx (ls.getD j [])))
  len : n = ls.length
  glt : gl < W.heap.size
  bel : Below w.heap.size w W
  ne : w.heap.size ≤ g ∧ g < bn ∧ bn < gl
theorem QP.kept {w : World} {g bn gl n : Nat} {ls : List Bs} {ys : List Sty} {nm : List Bool} {W W' : World} (h : QP w g bn gl n ls ys nm W) (hb : Below W.heap.size W W') : QP w g bn gl n ls ys nm W' :=
  ⟨h.rl.kept h.rl.lt hb, (hb.block _ ((Array.getElem?_eq_some_iff.1 h.sb).1)).trans h.sb, h.nl, fun j hj => (hb.cell (p := ⟨gl, j, none⟩) h.glt).trans (h.ln j hj), h.len, Nat.lt_of_lt_of_le h.glt hb.size, h.bel.trans (below_le hb h.bel.size), h.ne⟩
theorem QP.seen {w : World} {g bn gl n : Nat} {ls : List Bs} {ys : List Sty} {nm : List Bool} {W : World} (h : QP w g bn gl n ls ys nm W) (k : Nat) (hk : k < 10) : W.cell? ⟨bn, k, none⟩ = some (.bool (nm.getD k false)) ∧ W.frozen? ⟨bn, k, none⟩ = false := by
  have hb := h.sb
  have hl := h.nl
  have e : (nm.map Value.bool)[k]? = some (.bool (nm.getD k false)) := by
    rw [List.getElem?_map, List.getD_eq_getElem?_getD, List.getElem?_eq_getElem (by omega)]; rfl
  exact ⟨by simpa [World.cell?, hb] using e, by simp [World.frozen?, hb]⟩
theorem QP.step {w : World} {g bn gl n : Nat} {ls : List Bs} {ys : List Sty} {nm : List Bool} {W : World} (h : QP w g bn gl n ls ys nm W) (k : Nat) (hk : k < 10) (y : Sty) :
    QP w g bn gl n ls (ys.set k y) (nm.set k true) ((((((W.setCell ⟨g, k * 5, none⟩ (.bool y.b)).setCell ⟨g, k * 5 + 1, none⟩ (.bool y.u)).setCell ⟨g, k * 5 + 2, none⟩ (.bool y.i)).setCell ⟨g, k * 5 + 3, none⟩ (.int .i64 y.f)).setCell ⟨g, k * 5 + 4, none⟩ (.int .i64 y.g)).setCell ⟨bn, k, none⟩ (.bool true)) := by
  have hn := h.ne
  have hr := h.rl.stored k hk y
  refine ⟨⟨(set_other (by omega)).trans hr.blk, hr.len⟩, ?_, by rw [List.length_set]; exact h.nl, fun j hj => ?_, h.len, by simpa using h.glt, ?_, hn⟩
  · have h5 : (((((W.setCell ⟨g, k * 5, none⟩ (.bool y.b)).setCell ⟨g, k * 5 + 1, none⟩ (.bool y.u)).setCell ⟨g, k * 5 + 2, none⟩ (.bool y.i)).setCell ⟨g, k * 5 + 3, none⟩ (.int .i64 y.f)).setCell ⟨g, k * 5 + 4, none⟩ (.int .i64 y.g)).heap[bn]? = some (.cells (nm.map Value.bool).toArray 4 (0, 0)) := (five_cell (by omega)).trans h.sb
    have := set_block (o := k) h5 (.bool true)
    rw [this]
    simp [List.map_set]
  · refine (World.cell?_of_block (a := ⟨gl, j, none⟩) ?_).trans (h.ln j hj)
    exact (set_other (show gl ≠ bn by omega)).trans (five_cell (show gl ≠ g by omega))
  · exact (((((h.bel.setCell (p := ⟨g, k * 5, none⟩) hn.1 _).setCell (p := ⟨g, k * 5 + 1, none⟩) hn.1 _).setCell (p := ⟨g, k * 5 + 2, none⟩) hn.1 _).setCell (p := ⟨g, k * 5 + 3, none⟩) hn.1 _).setCell (p := ⟨g, k * 5 + 4, none⟩) hn.1 _).setCell (p := ⟨bn, k, none⟩) (show w.heap.size ≤ bn by omega) _
def ParseREnd (R : Option (List Sty) × Nat) (w : World) (e : Ending) (w' : World) : Prop :=
  match R with
  | (some ys, _) => ∃ g, e = .returned (.tuple #[.slice (some ⟨g, 0, none⟩) 10 10, .int .i64 0, .int .i64 0]) ∧ RLat w' g ys ∧ w.heap.size ≤ g ∧ Below w.heap.size w w'
  | (none, n) => e = .returned (.tuple #[.slice none 0 0, .int .i64 n, .int .i64 310]) ∧ Below w.heap.size w w'
theorem nl_len (s : Bs) : (nl s).length ≤ s.length + 1 := by
  induction s with
  | nil => simp [nl]
  | cons c l ih =>
    unfold nl
    split
    · simp; omega
    · split
      · simp
      · rename_i h t e; rw [e] at ih; simp at ih ⊢; omega
theorem nl_each (s : Bs) : ∀ l ∈ nl s, l.length ≤ s.length := by
  induction s with
  | nil => intro l hl; simp [nl] at hl; subst hl; simp
  | cons c t ih =>
    intro l hl
    unfold nl at hl
    split at hl
    · rcases List.mem_cons.1 hl with q | q
      · subst q; simp
      · have := ih l q; simp; omega
    · split at hl
      · simp at hl; subst hl; simp
      · rename_i h r e
        rcases List.mem_cons.1 hl with q | q
        · subst q
          have := ih h (by rw [e]; simp)
          simp
          omega
        · have := ih l (by rw [e]; simp [q])
          simp
          omega
set_option maxRecDepth 100000 in
set_option maxHeartbeats 4000000 in
theorem wparseR (s : Bs) (hs : s.length ≤ 600000) (w : World) : Calls Tryd.prog 13 #[.string (tx s)] w (ParseREnd (parseT s) w) := by
  obtain ⟨R, hR⟩ : ∃ R, R = parseT s := ⟨_, rfl⟩
  have HR : Hid (R = runL (nl s) 1 usualL falses) := Lib.hid hR
  rw [← hR]
  clear hR
  have HL := Lib.hid (fun W => wlines s (by omega) W)
  have HEA := Lib.hid (nl_each s)
  have hnl := nl_len s
  have HNE := Lib.hid (nl_ne s)
  obtain ⟨ls, hls⟩ : ∃ ls, ls = nl s := ⟨_, rfl⟩
  rw [← hls] at HR HL hnl HEA HNE
  clear hls
  unfold LinesEnd at HL
  have HRL0 : Hid (RLat (w.alloc (.cells usualA 23)) w.heap.size usualL) := Lib.hid ⟨heap_alloc_new _ _, rfl⟩
  have hmk : ∀ w : World, (Instr.makeSlice 70 (.int .i64 10) (.int .i64 10)).run Tryd.prog w = .ok (.slice (some ⟨w.heap.size, 0, none⟩) 10 10) (w.alloc (.cells #[.bool false, .bool false, .bool false, .bool false, .bool false, .bool false, .bool false, .bool false, .bool false, .bool false] 4)) := fun _ => by kernel_rfl
  go_enter Tryd.func13, Tryd.ntmps13
  go_wp2_with (first | (go_at_call 17; fail))
  go_at_call 17
  refine (wusualR _).mono ?_
  rintro e w1 ⟨rfl, rfl⟩
  go_wp2_with (first | (go_at_call 31; fail))
  have H0 : Hid (∀ gl w2, w2.heap.size > gl → (w.heap.size + 2) ≤ gl → (∀ j, j < ls.length → w2.cell? ⟨gl, j, none⟩ = some (.string (tx (ls.getD j [])))) → Below (w.heap.size + 2) ((w.alloc (.cells usualA 23)).alloc (.cells #[.bool false, .bool false, .bool false, .bool false, .bool false, .bool false, .bool false, .bool false, .bool false, .bool false] 4)) w2 → QP w w.heap.size (w.heap.size + 1) gl ls.length ls usualL falses w2) := Lib.hid (fun gl w2 h1 h2 h3 h4 => by
    have hb0 : Below w.heap.size w ((w.alloc (.cells usualA 23)).alloc (.cells #[.bool false, .bool false, .bool false, .bool false, .bool false, .bool false, .bool false, .bool false, .bool false, .bool false] 4)) := ((Below.refl _ _).alloc (Nat.le_refl _) _).alloc (by simp) _
    have hr0 : RLat ((w.alloc (.cells usualA 23)).alloc (.cells #[.bool false, .bool false, .bool false, .bool false, .bool false, .bool false, .bool false, .bool false, .bool false, .bool false] 4)) w.heap.size usualL := HRL0.out.kept HRL0.out.lt ((Below.refl _ _).alloc (Nat.le_refl _) _)
    have hq := heap_alloc_new (w.alloc (.cells usualA 23)) (.cells #[.bool false, .bool false, .bool false, .bool false, .bool false, .bool false, .bool false, .bool false, .bool false, .bool false] 4)
    have hsz : (w.alloc (.cells usualA 23)).heap.size = w.heap.size + 1 := by simp
    rw [hsz] at hq
    refine ⟨hr0.kept (by omega) h4, (h4.block _ (by omega)).trans hq, rfl, h3, rfl, h1, hb0.trans (below_le h4 (by omega)), by omega⟩)
  go_at_call 31
  refine (HL.out _).mono ?_
  rintro e w2 ⟨gl, cap, rfl, hcap, hlt, hge, hcs, hb⟩
  have HQ0 := Lib.hid (H0.out gl w2 hlt (by simpa using hge) hcs (by simpa using hb))
  clear H0 HL HRL0 hge hcs hb hmk
  obtain ⟨g, hg⟩ : ∃ b, b = w.heap.size := ⟨_, rfl⟩
  obtain ⟨bn, hbn⟩ : ∃ b, b = w.heap.size + 1 := ⟨_, rfl⟩
  rw [← hbn, ← hg] at HQ0
  rw [← hbn]
  rw [← hg]
  clear hbn
  obtain ⟨n, hn⟩ : ∃ n, n = ls.length := ⟨_, rfl⟩
  rw [← hn] at HQ0 hcap hnl ⊢
  clear hlt
  have HN := Lib.hid hn
  have HG := Lib.hid hg
  clear hn hg
  have hn1 : 1 ≤ n := by
    have := HNE.out
    have h2 := HN.out
    cases ls with
    | nil => exact absurd rfl this
    | cons a t => simp at h2; omega
  go_wp2
  go_loopw [8] (fun i wr => ∃ (k : Nat) (ys : List Sty) (nm : List Bool), i = .int .i64 k ∧ k ≤ n - 1 ∧ Hid (runL (ls.drop k) (k + 1) ys nm = R ∧ QP w g bn gl n ls ys nm wr)) (fun i _ => n - (intOf i).toNat)
  case atStart => exact ⟨0, usualL, falses, rfl, by omega, Lib.hid ⟨(show runL (ls.drop 0) (0 + 1) usualL falses = R by rw [List.drop_zero]; exact HR.out.symm), HQ0.out⟩⟩
  case round =>
    clear HQ0 HR
    obtain ⟨k, ys, nm, rfl, hk, HS⟩ := hrel
    by_cases h0 : k < n - 1
    · have hkl : k < ls.length := by have := HN.out; omega
      have hdr : ls.drop k = ls.getD k [] :: ls.drop (k + 1) := by
        rw [List.drop_eq_getElem_cons hkl, List.getD_eq_getElem?_getD, List.getElem?_eq_getElem hkl]; rfl
      have hne : ls.drop (k + 1) ≠ [] := by
        intro q
        have := congrArg List.length q
        have h2 := HN.out
        simp at this
        omega
      have hr := HS.out.1
      rw [hdr, runL_cons _ _ hne, ← rlB_eq] at hr
      have hlm : (ls.getD k []).length ≤ 600000 := by
        refine Nat.le_trans (HEA.out _ ?_) hs
        rw [List.getD_eq_getElem?_getD, List.getElem?_eq_getElem hkl]
        exact List.getElem_mem hkl
      have hck := HS.out.2.ln k (by omega)
      have HLN := Lib.hid (fun W => wline (ls.getD k []) (by omega) W)
      have HRK := Lib.hid (rlK_in (ls.getD k []))
      have HOF := Lib.hid (rl_of (ls.getD k []))
      obtain ⟨l, hl⟩ : ∃ l, l = ls.getD k [] := ⟨_, rfl⟩
      rw [← hl] at hr hck HLN HRK HOF
      obtain ⟨kk, hkk⟩ : ∃ x : Nat, rlK l = (x : Int) := ⟨(rlK l).toNat, by have := HRK.out; omega⟩
      have hk10 : kk < 10 := by have := HRK.out; omega
      unfold LineEnd at HLN
      rw [hkk] at HLN
      have HR := Lib.hid hr
      clear hl hdr hne hr hlm hkl
      have i1 : (0 : Int) ≤ (k : Int) := by omega
      have i2 : (k : Int) < ((n - 1 : Nat) : Int) := by omega
      have i2b : (k : Int) < (n : Int) - 1 := by omega
      have i2c : (k : Int) < (n : Int) := by omega
      have j1 : (0 : Int) ≤ (kk : Int) := by omega
      have j2 : (kk : Int) < 10 := by omega
      go_wp2_with (first | (go_at_call 32; fail))
      go_at_call 32
      refine (HLN.out _).mono ?_
      rintro e w5 ⟨rfl, hb5⟩
      obtain ⟨y, hy⟩ : ∃ y, y = rlY l := ⟨_, rfl⟩
      obtain ⟨pb, hpb⟩ : ∃ y, y = rlB l := ⟨_, rfl⟩
      rw [← hy] at HOF ⊢
      rw [← hpb] at HOF HR ⊢
      rw [hkk] at HOF
      have hzz : w5.heap.size ≤ (w5.alloc (.cells (styCells y) 23)).heap.size := by simp
      have H6 := Lib.hid ((HS.out.2.kept hb5).kept ((Below.refl _ _).alloc (Nat.le_refl _) (.cells (styCells y) 23)))
      clear hb5 HS HLN hkk hy hpb hck hzz HRK
      obtain ⟨yb, yu, yi, yf, yg⟩ := y
      unfold Sty.v
      unfold styCells at H6
      simp only [] at H6 ⊢
      have HYB : Hid (StyAt (w5.alloc (.cells #[.bool yb, .bool yu, .bool yi, .int .i64 yf, .int .i64 yg] 23)) w5.heap.size ⟨yb, yu, yi, yf, yg⟩) := Lib.hid (heap_alloc_new _ _)
      cases pb
      · have HNN : Hid (R = (none, k + 1)) := by
          have := HR.out
          simp only [Bool.false_eq_true, false_and, if_false] at this
          exact Lib.hid this.symm
        clear HR HOF
        go_wp2
        go_ret3
        rw [HNN.out]
        exact ⟨rfl, H6.out.bel⟩
      · obtain ⟨hkx, hy2⟩ := HOF.out rfl
        have hk2 : kk = lnK l := by omega
        clear hkx
        obtain ⟨c5, f5⟩ := H6.out.seen kk hk10
        cases hq : nm.getD kk false
        · have HNN : Hid (runL (ls.drop (k + 1)) (k + 1 + 1) (ys.set kk ⟨yb, yu, yi, yf, yg⟩) (nm.set kk true) = R) := by
            have := HR.out
            rw [← hk2, ← hy2, hq] at this
            simp only [and_true, if_true] at this
            exact Lib.hid this
          rw [hq] at c5
          clear HR HOF hk2 hy2 hq
          go_upto_region 10 with (fail)
          have HST := Lib.hid (H6.out.step kk hk10 ⟨yb, yu, yi, yf, yg⟩)
          obtain ⟨c0, c1, c2, c3, c4, _, _⟩ := HYB.out.get
          obtain ⟨d0, d1, d2, d3, d4⟩ := H6.out.rl.get kk hk10
          have f0 := H6.out.rl.frozen (kk * 5)
          have f1 := H6.out.rl.frozen (kk * 5 + 1)
          have f2 := H6.out.rl.frozen (kk * 5 + 2)
          have f3 := H6.out.rl.frozen (kk * 5 + 3)
          have f4 := H6.out.rl.frozen (kk * 5 + 4)
          have hne := H6.out.ne
          have hglt := H6.out.glt
          have n1 : ¬ g = bn := by omega
          have n2 : ¬ bn = g := by omega
          simp only [] at HST c0 c1 c2 c3 c4
          generalize w5.alloc (.cells #[.bool yb, .bool yu, .bool yi, .int .i64 yf, .int .i64 yg] 23) = W2 at HST c0 c1 c2 c3 c4 d0 d1 d2 d3 d4 f0 f1 f2 f3 f4 c5 f5 ⊢
          clear hne hglt H6 HYB
          go_wp2
          go_roundw
          case rel => exact ⟨k + 1, _, _, by go_num, by omega, Lib.hid ⟨HNN.out, HST.out⟩⟩
          case measure => simp [intOf]; omega
        · have HNN : Hid (R = (none, k + 1)) := by
            have := HR.out
            rw [← hk2, hq] at this
            simp only [Bool.true_eq_false, and_false, if_false] at this
            exact Lib.hid this.symm
          rw [hq] at c5
          clear HR HOF hk2 hy2 hq
          go_wp2
          go_ret3
          rw [HNN.out]
          exact ⟨rfl, H6.out.bel⟩
    · obtain rfl : k = n - 1 := by omega
      have hkl : n - 1 < ls.length := by have := HN.out; omega
      have hdr : ls.drop (n - 1) = [ls.getD (n - 1) []] := by
        rw [List.drop_eq_getElem_cons hkl, List.getD_eq_getElem?_getD, List.getElem?_eq_getElem hkl]
        have h2 := HN.out
        rw [List.drop_eq_nil_of_le (by omega)]
        rfl
      have hr := HS.out.1
      rw [hdr, show n - 1 + 1 = n by omega, runL] at hr
      have hck := HS.out.2.ln (n - 1) (by omega)
      obtain ⟨l, hl⟩ : ∃ l, l = ls.getD (n - 1) [] := ⟨_, rfl⟩
      rw [← hl] at hr hck
      have HB := Lib.hid HS.out.2
      have HR := Lib.hid hr
      clear hl hdr hr HS
      have hcast : ((n - 1 : Nat) : Int) = (n : Int) - 1 := by omega
      have i1 : (0 : Int) ≤ (n : Int) - 1 := by omega
      have i2 : (n : Int) - 1 < (n : Int) := by omega
      have i3 : ((n : Int) - 1).toNat = n - 1 := by omega
      rw [hcast]
      by_cases hl : l = []
      · have HNN : Hid (R = (some ys, 0)) := Lib.hid (by rw [← HR.out, if_pos hl])
        clear HR
        subst hl
        have e0 : tx [] = ⟨#[]⟩ := rfl
        rw [e0] at hck
        clear e0
        go_wp2
        go_ret3
        rw [HNN.out]
        exact ⟨g, rfl, HB.out.rl, HG.out ▸ Nat.le_refl _, HB.out.bel⟩
      · have HNN : Hid (R = (none, n)) := Lib.hid (by rw [← HR.out, if_neg hl])
        have h1 : (tx l).toList.isEmpty = false := by rw [ByteArray.toList_eq]; simpa [tx] using hl
        have h2 : ¬ (tx l).toList = [] := fun q => by rw [q] at h1; cases h1
        clear HR
        obtain ⟨T, hT⟩ : ∃ T, T = tx l := ⟨_, rfl⟩
        rw [← hT] at h1 h2 hck
        clear hT
        go_wp2
        go_ret3
        rw [HNN.out]
        exact ⟨rfl, HB.out.bel⟩
end Go.Proofs.YtlhfdpeidlbomaaDoor
