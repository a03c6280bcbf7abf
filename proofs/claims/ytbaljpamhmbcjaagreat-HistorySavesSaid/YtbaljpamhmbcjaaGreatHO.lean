/- Walk: Add of a made history. -/
import Derived.Test.YtbaljpamhmbcjaaGreatHN
namespace Go.Proofs.YtbaljpamhmbcjaaGreat
open Go.RowKit Go.Shelf
theorem row_take {w : World} {base : Nat} {e : TypeId} {n n' cap : Nat} {x : Option Addr} {xs : List Value} (h : w.ownsRow base e 1 (.slice x n cap) n xs) (hn : n' ≤ n) (h0 : 0 < n') : w.ownsRow base e 1 (.slice x n' cap) n' (xs.take n') := by
  have hx := h.1
  refine ⟨by simp at hx ⊢; omega, ?_⟩
  rcases h.2 with ⟨hv, rfl⟩ | ⟨g, cap', cur, hv, hb, hg, h1, h2, h3, h4⟩
  · omega
  · cases hv
    refine .inr ⟨g, cap, cur, rfl, hb, hg, by omega, h2, h3, ?_⟩
    rw [← h4, List.take_take]
    congr 1
    omega
theorem row_base {w : World} {base : Nat} {e : TypeId} {z n : Nat} {v : Value} {xs : List Value} (h : w.ownsRow base e z v n xs) : w.ownsRow 0 e z v n xs := row_lower h (Nat.zero_le _)
theorem strs_app (A B : List Bs) : strs (A ++ B) = strs A ++ strs B := by simp [strs]
theorem strs_take (A : List Bs) (n : Nat) : strs (A.take n) = (strs A).take n := by simp [strs, List.map_take]
theorem flatS_len (l : Bs) : (flatS l).length ≤ 64 * (l.length + 1) := by
  have := cleanS_len (l.map flatB)
  unfold flatS
  simpa using this
theorem World.ownsRow_made1 (w : World) (T : ByteArray) : (w.alloc (.cells #[.string T] 9)).ownsRow w.heap.size 9 1 (.slice (some ⟨w.heap.size, 0, none⟩) 1 1) 1 [.string T] :=
  ⟨rfl, .inr ⟨w.heap.size, 1, #[.string T], rfl, Nat.le_refl _, heap_alloc_new _ _, Nat.le_refl _, by unfold maxLen; omega, rfl, rfl⟩⟩
/-- Add's row, as far as the loop has come. -/
def lnA (L : List Bs) (l : Bs) (j : Nat) : List Bs := l :: (L.take j).filter (fun y => decide (y ≠ l))
theorem lnA_len (L : List Bs) (l : Bs) (j : Nat) : (lnA L l j).length ≤ j + 1 := by
  unfold lnA
  have := List.length_filter_le (fun y => decide (y ≠ l)) (L.take j)
  simp at this ⊢
  omega
theorem lnA_same (L : List Bs) (l : Bs) (j : Nat) (hj : j < L.length) (h : L.getD j [] = l) : lnA L l (j + 1) = lnA L l j := by
  unfold lnA
  rw [List.getD_eq_getElem?_getD, List.getElem?_eq_getElem hj] at h
  rw [List.take_succ_eq_append_getElem hj, List.filter_append]
  simp at h
  simp [h]
theorem lnA_step (L : List Bs) (l : Bs) (j : Nat) (hj : j < L.length) (h : ¬ L.getD j [] = l) : lnA L l (j + 1) = lnA L l j ++ [L.getD j []] := by
  unfold lnA
  rw [List.getD_eq_getElem?_getD, List.getElem?_eq_getElem hj] at h ⊢
  rw [List.take_succ_eq_append_getElem hj, List.filter_append]
  simp at h
  simp [h]
/-- What Add's loop keeps. -/
structure AddI (w w2 : World) (b : Nat) (m : Int) (L : List Bs) (x : Option Addr) (c : Nat) (W : World) : Prop where
  his : His W b m L Wk.no x c
  but : But [b] w W
  le : w2.heap.size ≤ W.heap.size
theorem AddI.grown {w w2 : World} {b : Nat} {m : Int} {L : List Bs} {x : Option Addr} {c : Nat} {W W' : World} {row : Option Nat} (h : AddI w w2 b m L x c W) (hw2 : w.heap.size ≤ w2.heap.size) (hr2 : ∀ j, x.map (·.block) = some j → j < w2.heap.size) (hb : b < w2.heap.size) (hg : W.grownBy W' row) (hr : ∀ j, row = some j → w2.heap.size ≤ j) : AddI w w2 b m L x c W' := by
  refine ⟨⟨(hg.block b h.his.lt (fun e => by have := hr b e.symm; omega)).trans h.his.hd, h.his.row.kept (fun j hj => hg.block j (h.his.row.lt j hj).1 (fun e => by have := hr j e.symm; have := hr2 j hj; omega))⟩, ?_, Nat.le_trans h.le hg.size⟩
  exact ⟨hg.os.trans h.but.os, hg.tape.trans h.but.tape, hg.output.trans h.but.output, Nat.le_trans h.but.size hg.size, fun j hj hl => (hg.block j (by have := h.but.size; omega) (fun e => by have := hr j e.symm; omega)).trans (h.but.block j hj hl)⟩
theorem add_end {w w2 : World} {b m : Nat} {L : List Bs} {x : Option Addr} {c : Nat} {W : World} (h : AddI w w2 b m L x c W) {R : List Bs} {y : Option Addr} {cap : Nat} (hr : W.ownsRow w2.heap.size 9 1 (.slice y R.length cap) R.length (strs R)) (hR : 1 ≤ R.length) (hm : 1 ≤ m) :
    His (W.setCell ⟨b, 1, none⟩ (.slice y (min R.length m) cap)) b m (R.take m) Wk.no y cap ∧ But [b] w (W.setCell ⟨b, 1, none⟩ (.slice y (min R.length m) cap)) := by
  refine ⟨⟨?_, ?_⟩, h.but.set _ _ (by simp)⟩
  · have := set_block h.his.hd (o := 1) (.slice y (min R.length m) cap)
    rw [this]
    unfold hisCells
    simp
    rw [Nat.min_comm]
  · have h1 : RowL W y cap (R.take m) := by
      unfold RowL
      rw [List.length_take, strs_take, Nat.min_comm]
      have := row_base (row_take hr (n' := min R.length m) (Nat.min_le_left _ _) (by omega))
      rw [show (strs R).take (min R.length m) = (strs R).take m by
        rw [List.take_eq_take_iff]; simp [strs]; omega] at this
      exact this
    refine h1.kept (fun j hj => set_other (fun e => ?_))
    obtain ⟨_, cur, hc⟩ := h1.lt j hj
    rw [e, h.his.hd] at hc
    cases hc
theorem But.heap_lt {l : List Nat} {w w' : World} (h : But l w w') : w.heap.size ≤ w'.heap.size := h.size
set_option maxRecDepth 100000 in
set_option maxHeartbeats 2000000 in
theorem wHadd (b m : Nat) (hm1 : 1 ≤ m) (hm2 : m ≤ 256) (L : List Bs) (hL : L.length ≤ 1000) (k : Wk) (x : Option Addr) (c : Nat) (s : Bs) (hs : s.length ≤ 10000) (w : World) (h : His w b m L k x c) :
    Calls Tryz.prog 22 #[.pointer (some ⟨b, 0, none⟩), .string (tx s)] w fun e w' => e = .returned (.bool (addL m L (flatS s)).1) ∧ (∃ x' c', His w' b m (addL m L (flatS s)).2 Wk.no x' c') ∧ But [b] w w' := by
  obtain ⟨i0, hi, hz0, hz1, hz2⟩ := info_parts9
  have HI9 := Lib.hid (And.intro hi (And.intro hz0 (And.intro hz1 hz2)))
  clear hi hz0 hz1 hz2
  have HMD := Lib.hid (wmade b m w h.cells.1)
  rw [decide_eq_true (by omega)] at HMD
  have HF := Lib.hid (fun W => wflat s (by omega) W)
  have HMY := Lib.hid (fun W => wmay (flatS s) (by have := flatS_len s; omega) W)
  obtain ⟨l, hl⟩ : ∃ l, l = flatS s := ⟨_, rfl⟩
  rw [← hl] at HF HMY ⊢
  clear hl hs
  obtain ⟨-, -, c2, c3, c4, c5, fz⟩ := h.cells
  have f2 := fz 2
  have f3 := fz 3
  have f4 := fz 4
  have f5 := fz 5
  clear fz
  have HS := Lib.hid h
  clear h
  obtain ⟨T, hT⟩ : ∃ T, T = tx l := ⟨_, rfl⟩
  obtain ⟨S, hS⟩ : ∃ T, T = tx s := ⟨_, rfl⟩
  rw [← hT] at HF HMY
  rw [← hS] at HF ⊢
  have HT := Lib.hid hT
  clear hT hS
  go_enter Tryz.func22, Tryz.ntmps22
  go_wp2_with (first | (go_at_call 31; (with_reducible refine HMD.out.mono ?_); rintro e w' ⟨rfl, rfl⟩) | (go_at_call 34; fail))
  go_at_call 34
  refine (HF.out _).mono ?_
  rintro e w1 ⟨rfl, hb1⟩
  have H1 := Lib.hid ((HS.out.setW Wk.no).below hb1)
  have B1 := Lib.hid (((But.refl [b] w).setW Wk.no).below hb1)
  clear hb1 f2 f3 f4 f5 c2 c3 c4 c5
  go_wp2_with (first | (go_at_call 14; fail))
  go_at_call 14
  refine (HMY.out _).mono ?_
  rintro e w2 ⟨rfl, hb2⟩
  have H2 := Lib.hid (H1.out.below hb2)
  have B2 := Lib.hid (B1.out.below hb2)
  clear hb2 HMY HF
  obtain ⟨V, hV⟩ : ∃ V, V = mayS l := ⟨_, rfl⟩
  have HV := Lib.hid hV
  rw [← hV]
  clear hV
  obtain ⟨c0, c1, -, -, -, -, fz⟩ := H2.out.cells
  have f1 := fz 1
  clear fz
  cases V
  · go_wp2
    go_ret
    have e1 : addL m L l = (false, L) := by unfold addL; rw [if_neg (by rw [← HV.out]; simp)]
    rw [e1]
    exact ⟨rfl, ⟨x, c, H2.out⟩, B2.out⟩
  · have hbl := H2.out.lt
    have HBA := Lib.hid (H2.out.below ((Below.refl _ _).alloc (Nat.le_refl _) (.cells #[.string T] 9)))
    have HNE := Lib.hid (World.ownsRow_made1 w2 T)
    cases L with
    | nil =>
      simp only [List.length_nil] at c1
      go_wp2
      have HLA := Lib.hid (And.intro (show AddI w w2 b m [] x c (w2.alloc (.cells #[.string T] 9)) from ⟨HBA.out, B2.out.alloc _, by simp⟩) HNE.out)
      have HBL := Lib.hid (And.intro hbl H2.out)
      have HW := Lib.hid B2.out.size
      clear c1 c0 f1 hbl HBA HNE HS H1 B1 H2 B2 HMD
      obtain ⟨w3, hw3⟩ : ∃ w3, w3 = w2.alloc (.cells #[.string T] 9) := ⟨_, rfl⟩
      rw [← hw3] at HLA ⊢
      clear hw3
      have hmin : min (1 : Int) (m : Int) = ((1 : Nat) : Int) := by omega
      go_loopw [5, 45] (fun v i wr => v = .slice (some ⟨w2.heap.size, 0, none⟩) 1 1 ∧ i = .int .i64 0 ∧ w3 = wr) (fun _ _ _ => 0)
      case atStart => exact ⟨rfl, rfl, rfl⟩
      case round =>
        obtain ⟨rfl, rfl, rfl⟩ := hrel
        obtain ⟨c0, c1, -, -, -, -, fz⟩ := HLA.out.1.his.cells
        have f1 := fz 1
        clear fz
        go_wp2
        go_ret
        have e1 : addL m [] l = (true, [l]) := by
          unfold addL
          rw [if_pos ⟨HV.out.symm, by simp⟩]
          simp
          exact List.take_of_length_le (by simp; omega)
        rw [e1]
        have HE := add_end HLA.out.1 (R := [l]) (cap := 1) (y := some ⟨w2.heap.size, 0, none⟩) (by rw [show strs [l] = [.string T] by rw [HT.out]; rfl]; exact HLA.out.2) (by simp) hm1
        rw [show min [l].length m = 1 by simp; omega, show [l].take m = [l] from List.take_of_length_le (by simp; omega)] at HE
        exact ⟨rfl, ⟨_, _, HE.1⟩, HE.2⟩
    | cons a t =>
      obtain ⟨g, rfl, hg, hcap, hget⟩ := H2.out.row.get 0 (by simp)
      have ce := hget 0 (by simp)
      simp only [List.getD_cons_zero] at ce
      have HGET := Lib.hid hget
      have HG := Lib.hid hg
      obtain ⟨n, hn⟩ : ∃ n, n = (a :: t).length := ⟨_, rfl⟩
      have HN := Lib.hid hn
      rw [← hn] at c1 hL HGET hcap
      have hn0 : 0 < n := by rw [hn]; simp
      obtain ⟨A, hA⟩ : ∃ A, A = tx a := ⟨_, rfl⟩
      rw [← hA] at ce
      clear hget hn
      have i1 : (0 : Int) < (n : Int) := by omega
      by_cases hal : a = l
      · have hq : (A.toList == T.toList) = true := by rw [beq_bytes, hA, HT.out, hal]; simp
        clear hA
        go_wp2
        go_ret
        have e1 : addL m (a :: t) l = (false, a :: t) := by unfold addL; rw [if_neg (by rw [hal]; simp)]
        rw [e1]
        exact ⟨rfl, ⟨_, c, H2.out⟩, B2.out⟩
      · have hq : (A.toList == T.toList) = false := by rw [beq_bytes, hA, HT.out, decide_eq_false (fun e => hal (tx_inj e))]
        clear hA
        go_wp2
        have HLA := Lib.hid (And.intro (show AddI w w2 b m (a :: t) (some ⟨g, 0, none⟩) c (w2.alloc (.cells #[.string T] 9)) from ⟨HBA.out, B2.out.alloc _, by simp⟩) (show (w2.alloc (.cells #[.string T] 9)).ownsRow w2.heap.size 9 1 (.slice (some ⟨w2.heap.size, 0, none⟩) 1 1) (lnA (a :: t) l 0).length (strs (lnA (a :: t) l 0)) from by
          have e0 : strs (lnA (a :: t) l 0) = [.string T] := by rw [HT.out]; rfl
          rw [e0]; exact HNE.out))
        have HBL := Lib.hid (And.intro hbl HG.out)
        have HW := Lib.hid B2.out.size
        clear c1 c0 ce f1 hq hbl HBA HNE HS H1 B1 H2 B2 HMD
        obtain ⟨w3, hw3⟩ : ∃ w3, w3 = w2.alloc (.cells #[.string T] 9) := ⟨_, rfl⟩
        rw [← hw3] at HLA ⊢
        clear hw3
        go_loopw [5, 45] (fun v i wr => ∃ j : Nat, i = .int .i64 (j : Int) ∧ j ≤ n ∧ Hid (AddI w w2 b m (a :: t) (some ⟨g, 0, none⟩) c wr ∧ wr.ownsRow w2.heap.size 9 1 v (lnA (a :: t) l j).length (strs (lnA (a :: t) l j)))) (fun _ i _ => n - (intOf i).toNat)
        case atStart => exact ⟨0, rfl, Nat.zero_le _, HLA⟩
        case round =>
          clear HLA
          obtain ⟨j, rfl, hj, HR⟩ := hrel
          by_cases hlt : j < n
          · have i1 : (0 : Int) ≤ (j : Int) := by omega
            have i2 : (j : Int) < (n : Int) := by omega
            have ce := HR.out.1.his.row.get j (by have := HN.out; omega)
            obtain ⟨g', hg', hgl, hcp, hget⟩ := ce
            cases hg'
            have ce := hget j (by have := HN.out; omega)
            obtain ⟨A, hA⟩ : ∃ A, A = (a :: t).getD j [] := ⟨_, rfl⟩
            have HAA := Lib.hid hA
            rw [← hA] at ce
            clear hget hA
            obtain ⟨TA, hTA⟩ : ∃ T, T = tx A := ⟨_, rfl⟩
            rw [← hTA] at ce
            have HTA := Lib.hid hTA
            clear hTA
            by_cases hal : A = l
            · have hq : (TA.toList == T.toList) = true := by rw [beq_bytes, HTA.out, HT.out, hal]; simp
              have HX := Lib.hid (lnA_same (a :: t) l j (by have := HN.out; omega) (by rw [← HAA.out, hal]))
              go_wp2
              go_roundw
              case rel => exact ⟨j + 1, by go_num, by omega, Lib.hid (by rw [HX.out]; exact HR.out)⟩
              case measure => simp [intOf]; omega
            · have hq : (TA.toList == T.toList) = false := by rw [beq_bytes, HTA.out, HT.out, decide_eq_false (fun e => hal (tx_inj e))]
              have HX := Lib.hid (lnA_step (a :: t) l j (by have := HN.out; omega) (by rw [← HAA.out]; exact hal))
              have hlen := lnA_len (a :: t) l j
              go_wp2_with (at_builtin; go_loud (refine wpList_append_own _ rfl _ _ 22 rfl w2.heap.size 9 i0 (.string ⟨#[]⟩) 1 16 Tryz.underlying22 HI9.out.1 HI9.out.2.1 HI9.out.2.2.1 HI9.out.2.2.2 rfl (by decide) _ _ _ rfl (HR.out.2.alloc _) ⟨wr.heap.size, 0, none⟩ 1 1 [.string TA] rfl rfl (cell_one_new _ _ _) (by simp [Value.oneCell']) (by unfold maxLen; omega) (by omega) (by have := HR.out.1.le; simp; omega) ?_))
              intro v1 w4 hown1 hgrow1 _
              have HO1 := Lib.hid hown1
              have HA1 := Lib.hid ((HR.out.1.grown (W' := wr.alloc (.cells #[.string TA] 9)) (row := none) HW.out (fun j hj => by cases hj; exact HBL.out.2) HBL.out.1 (by exact ⟨rfl, rfl, rfl, by simp, fun k hk _ => Below.heap_alloc _ _ _ hk⟩) (fun j hj => by cases hj)).grown HW.out (fun j hj => by cases hj; exact HBL.out.2) HBL.out.1 hgrow1 (fun j hj => (HR.out.2.lt j hj).1))
              clear hown1 hgrow1
              go_wp2
              go_roundw
              case rel => exact ⟨j + 1, by go_num, by omega, Lib.hid ⟨HA1.out, by rw [HX.out, ← HAA.out, strs_app, List.length_append, show strs [A] = [.string TA] by rw [HTA.out]; rfl]; exact HO1.out⟩⟩
              case measure => simp [intOf]; omega
          · obtain rfl : j = n := by omega
            obtain ⟨c0, c1, -, -, -, -, fz⟩ := HR.out.1.his.cells
            have f1 := fz 1
            clear fz
            have hA0 : lnA (a :: t) l j = l :: (a :: t).filter (fun y => decide (y ≠ l)) := by
              unfold lnA
              rw [HN.out, List.take_length]
            have HRR := HR.out.2
            obtain ⟨R, hR⟩ : ∃ R, R = lnA (a :: t) l j := ⟨_, rfl⟩
            rw [← hR] at HRR hA0
            obtain ⟨N, hN⟩ : ∃ N, N = R.length := ⟨_, rfl⟩
            obtain ⟨y, cap, rfl⟩ := ownsRow_is HRR
            have hNc : N ≤ cap := by rw [hN]; exact RowL.cap (row_base HRR)
            have hN1 : 1 ≤ N := by rw [hN, hA0]; simp
            have HRH := Lib.hid HRR
            have HA0 := Lib.hid hA0
            have HNN := Lib.hid hN
            rw [← hN]
            clear HRR hA0 hR hN
            obtain ⟨q, hq⟩ : ∃ q, q = min N m := ⟨_, rfl⟩
            have hmin : min (N : Int) (m : Int) = (q : Int) := by omega
            have hqc : q ≤ cap := by omega
            have hq1 : (0 : Int) ≤ (q : Int) := by omega
            have HQ := Lib.hid hq
            clear hq
            go_wp2
            go_ret
            have e1 : addL m (a :: t) l = (true, R.take m) := by
              unfold addL
              rw [if_pos ⟨HV.out.symm, by simp; exact hal⟩, HA0.out]
            rw [e1]
            have HE := add_end HR.out.1 HRH.out (by rw [← HNN.out]; exact hN1) hm1
            rw [← HNN.out, ← HQ.out] at HE
            exact ⟨rfl, ⟨_, _, HE.1⟩, HE.2⟩
end Go.Proofs.YtbaljpamhmbcjaaGreat
