/- Merged: KC, KD. -/
import Derived.Test.YtbaljpamhmbcjaaKB
/- Walks: Newer, Add of the reference. -/
namespace Go.Proofs.Ytbaljpamhmbcjaa
open Go.RowKit Go.Shelf
theorem rOlder (m : Int) (x : Option Addr) (c : Nat) (L : List Bs) (hL : L.length ≤ 900) (k : Wk) (hk : k.Ok L) (d bg : Bs) (w : World) (h : SeesL w x c L) :
    Calls Try.prog 34 #[rV m x L.length c k, .string (tx d), .string (tx bg)] w fun e w' => e = threeE m x L.length c (olderS L k d bg) ∧ Below w.heap.size w w' := by
  have h2 : -1 ≤ (k.on' d bg).at_ ∧ (k.on' d bg).at_ < 900 := by
    unfold Wk.on'
    split
    · rename_i ho
      have := hk ho
      omega
    · simp
  exact rOlder_core m x c L (by omega) k d bg w h _ rfl ((k.on' d bg).at_ + 1).toNat (by omega) (by omega)
/-- Two blocks of the reference's own. -/
structure RC (w : World) (A Z : Array Value) (W : World) : Prop where
  a : W.heap[w.heap.size]? = some (.cells A 41 (0, 0))
  z : W.heap[w.heap.size + 1]? = some (.cells Z 41 (0, 0))
  bel : Below w.heap.size w W
theorem RC.start (w : World) (A Z : Array Value) : RC w A Z ((w.alloc (.cells A 41)).alloc (.cells Z 41)) :=
  ⟨(heap_alloc_old _ _ (by simp)).trans (heap_alloc_new _ _), alloc_new1 _ _ _, ((Below.refl _ _).alloc (Nat.le_refl _) _).alloc (by simp) _⟩
theorem RC.drewN {w : World} {A Z : Array Value} {W : World} (h : RC w A Z W) (m : Nat) : RC w A Z (W.drewN m) := ⟨h.a, h.z, below_drewN h.bel m⟩
theorem RC.below {w : World} {A Z : Array Value} {W W' : World} (h : RC w A Z W) (hb : Below W.heap.size W W') : RC w A Z W' :=
  ⟨(hb.block _ (Array.getElem?_eq_some_iff.1 h.a).1).trans h.a, (hb.block _ (Array.getElem?_eq_some_iff.1 h.z).1).trans h.z, h.bel.trans (below_le hb h.bel.size)⟩
theorem set6_other {W : World} {q j : Nat} (h : j ≠ q) (a0 a1 a2 a3 a4 a5 : Value) : ((((((W.setCell ⟨q, 0, none⟩ a0).setCell ⟨q, 1, none⟩ a1).setCell ⟨q, 2, none⟩ a2).setCell ⟨q, 3, none⟩ a3).setCell ⟨q, 4, none⟩ a4).setCell ⟨q, 5, none⟩ a5).heap[j]? = W.heap[j]? :=
  (set_other h).trans ((set_other h).trans ((set_other h).trans ((set_other h).trans ((set_other h).trans (set_other h)))))
def zeroC : Array Value := #[.int .i64 0, .slice none 0 0, .bool false, .string ⟨#[]⟩, .string ⟨#[]⟩, .int .i64 0]
set_option maxRecDepth 100000 in
set_option maxHeartbeats 2000000 in
theorem rNewer (m : Int) (x : Option Addr) (c : Nat) (L : List Bs) (hL : L.length ≤ 900) (k : Wk) (hk : k.Ok L) (w : World) (h : SeesL w x c L) :
    Calls Try.prog 35 #[rV m x L.length c k] w fun e w' => e = threeE m x L.length c (newerS L k) ∧ Below w.heap.size w w' := by
  have HH := Lib.hid h
  unfold threeE
  have HE : Hid (∀ k x n, rV m x n c k = .agg (hisCells m x n c k)) := Lib.hid (fun _ _ _ => rfl)
  obtain ⟨on, d, g, a⟩ := k
  have hkv : rV m x L.length c ⟨on, d, g, a⟩ = .agg #[.int .i64 m, .slice x L.length c, .bool on, .string (tx d), .string (tx g), .int .i64 a] := rfl
  rw [hkv]
  clear hkv
  obtain ⟨n, hn⟩ : ∃ n, n = L.length := ⟨_, rfl⟩
  have HN := Lib.hid hn
  rw [← hn] at hL ⊢
  obtain ⟨D, hD⟩ : ∃ D, D = tx d := ⟨_, rfl⟩
  obtain ⟨G, hG⟩ : ∃ D, D = tx g := ⟨_, rfl⟩
  have HDG := Lib.hid (And.intro hD hG)
  rw [← hD, ← hG]
  clear hD hG hn h
  have HS0 := Lib.hid (RC.start w #[.int .i64 m, .slice x n c, .bool on, .string D, .string G, .int .i64 a] zeroC)
  unfold zeroC at HS0
  cases on
  · have HNV : Hid (newerS L ⟨false, d, g, a⟩ = (⟨false, d, g, a⟩, [], false)) := Lib.hid rfl
    rw [HNV.out]
    clear hk HNV
    go_enter Try.func35, Try.ntmps35
    go_wp2
    have HF := alloc_new1 w (.cells #[.int .i64 m, .slice x n c, .bool false, .string D, .string G, .int .i64 a] 41) (.cells #[.int .i64 m, .slice x n c, .bool false, .string D, .string G, .int .i64 a] 41)
    refine bodyPost_ret (results_cell_tmp2 rfl _ _ (w.heap.size + 1) 41 _ (0, 0) _ rfl HF Try.underlying41 rfl (by kernel_rfl)) rfl ?_
    refine ⟨?_, ((Below.refl _ _).alloc (Nat.le_refl _) _).alloc (by simp) _⟩
    rw [HE.out, HDG.out.1, HDG.out.2]
    rfl
  · have ho := hk rfl
    simp only at ho
    obtain ⟨s, rfl⟩ : ∃ s : Nat, a = (s : Int) := ⟨a.toNat, by omega⟩
    have hsn : s < n := by have := HN.out; omega
    have HNV : Hid (newerS L ⟨true, d, g, (s : Int)⟩ = newerR L ⟨true, d, g, (s : Int)⟩ (nxD L d g s)) := Lib.hid rfl
    rw [HNV.out]
    have HLV := Lib.hid (fun W => rLeave m x n c ⟨true, d, g, (s : Int)⟩ W)
    unfold rV hisCells at HLV
    simp only at HLV
    rw [← HDG.out.1, ← HDG.out.2] at HLV
    clear hk HNV ho
    go_enter Try.func35, Try.ntmps35
    go_wp2
    obtain ⟨W0, hW0⟩ : ∃ W0, W0 = (w.alloc (.cells #[.int .i64 m, .slice x n c, .bool true, .string D, .string G, .int .i64 (s : Int)] 41)).alloc (.cells #[.int .i64 0, .slice none 0 0, .bool false, .string ⟨#[]⟩, .string ⟨#[]⟩, .int .i64 0] 41) := ⟨_, rfl⟩
    rw [← hW0] at HS0 ⊢
    clear hW0
    go_loopw [5] (fun v wr => ∃ j : Nat, v = .int .i64 ((j : Int) - 1) ∧ j ≤ s ∧ Hid (∀ q, j ≤ q → q < s → toldAt L d g q = false) ∧ Hid (∃ mm, wr = W0.drewN mm)) (fun v _ => (intOf v + 1).toNat)
    case atStart => exact ⟨s, by first | rfl | go_num, Nat.le_refl _, Lib.hid (fun q h1 h2 => by omega), Lib.hid ⟨0, rfl⟩⟩
    case round =>
      obtain ⟨j, rfl, hj, HQ, HW⟩ := hrel
      have HS : Hid (RC w #[.int .i64 m, .slice x n c, .bool true, .string D, .string G, .int .i64 (s : Int)] #[.int .i64 0, .slice none 0 0, .bool false, .string ⟨#[]⟩, .string ⟨#[]⟩, .int .i64 0] wr) := Lib.hid (by obtain ⟨mm, rfl⟩ := HW.out; exact HS0.out.drewN mm)
      obtain ⟨a0, a1, a2, a3, a4, a5, az⟩ := cells6 HS.out.a
      obtain ⟨z0, z1, z2, z3, z4, z5, zz⟩ := cells6 HS.out.z
      by_cases hlt : 0 < j
      · obtain ⟨j, rfl⟩ : ∃ i, j = i + 1 := ⟨j - 1, by omega⟩
        have ej : ((j + 1 : Nat) : Int) - 1 = (j : Int) := by omega
        rw [ej]
        clear ej
        have i1 : (0 : Int) ≤ (j : Int) := by omega
        have i2 : (j : Int) < (n : Int) := by omega
        obtain ⟨gr, rfl, hgr, hget⟩ := HH.out.2.2 (by have := HN.out; omega)
        have ce := (HS.out.bel.cell (p := ⟨gr, j, none⟩) hgr).trans (hget j (by have := HN.out; omega))
        have HOF := Lib.hid (fun W => wOfR (L.getD j []) d g W)
        rw [← HDG.out.1, ← HDG.out.2] at HOF
        obtain ⟨V, hV⟩ : ∃ V, V = toldAt L d g j := ⟨_, rfl⟩
        have HV := Lib.hid hV
        have hV2 : V = toldB (L.getD j []) d g := hV
        rw [← hV2] at HOF
        obtain ⟨X, hX⟩ : ∃ X, X = tx (L.getD j []) := ⟨_, rfl⟩
        have HX := Lib.hid hX
        rw [← hX] at HOF ce
        clear hV hV2 hX hget
        cases V
        · clear az zz
          go_wp2
          go_quiet ((go_at_call 12; exact quiet_sym (HOF.out _)))
          go_wp2
          go_roundw
          case rel =>
            obtain ⟨mm, rfl⟩ := HW.out
            exact ⟨j, by first | rfl | go_num, by omega, Lib.hid (fun q h1 h2 => by
              by_cases e : q = j
              · rw [e]; exact HV.out.symm
              · exact HQ.out q (by omega) h2), Lib.hid ⟨mm + nq, World.drewN_drewN _ _ _⟩⟩
          case measure => simp [intOf] <;> omega
        · have af := az 5
          have zf0 := zz 0
          have zf1 := zz 1
          have zf2 := zz 2
          have zf3 := zz 3
          have zf4 := zz 4
          have zf5 := zz 5
          have hne : ¬ gr = w.heap.size := by omega
          have hne2 : ¬ gr = w.heap.size + 1 := by omega
          have HNX := Lib.hid (nxD_some (L := L) (d := d) (bg := g) (by omega) HV.out.symm (fun q h1 h2 => HQ.out q (by omega) h2))
          clear zz az
          go_wp2
          go_quiet ((go_at_call 12; exact quiet_sym (HOF.out _)))
          go_wp2
          go_region
          go_wp2
          rw [HNX.out]
          have HF := set6_drew (W := (wr.drewN nq).setCell ⟨w.heap.size, 5, none⟩ (.int .i64 (j : Int))) ((set_other (by omega)).trans HS.out.z) (.int .i64 m) (.slice (some ⟨gr, 0, none⟩) n c) (.bool true) (.string D) (.string G) (.int .i64 (j : Int))
          refine bodyPost_ret (results_cell_tmp2 rfl _ _ (w.heap.size + 1) 41 _ (0, 0) _ rfl HF Try.underlying41 rfl (by kernel_rfl)) rfl ?_
          refine ⟨?_, (set6_below ((below_drewN HS.out.bel nq).setCell (p := ⟨w.heap.size, 5, none⟩) (Nat.le_refl _) _) (show w.heap.size ≤ w.heap.size + 1 by omega) _ _ _ _ _ _).drew⟩
          rw [HE.out, HX.out, HDG.out.1, HDG.out.2]
          rfl
      · obtain rfl : j = 0 := by omega
        have e0 : ((0 : Nat) : Int) - 1 = -1 := by omega
        rw [e0]
        clear e0
        have HNX := Lib.hid (nxD_none (L := L) (d := d) (bg := g) (s := s) (fun q h2 => HQ.out q (Nat.zero_le _) h2))
        clear az zz
        go_wp2_with (first | (go_at_call 36; fail))
        go_at_call 36
        refine (HLV.out _).mono ?_
        rintro e w2 ⟨rfl, hb2⟩
        have H2 := Lib.hid (HS.out.below hb2)
        clear hb2 a0 a1 a2 a3 a4 a5 z0 z1 z2 z3 z4 z5
        obtain ⟨a0, a1, a2, a3, a4, a5, az⟩ := cells6 H2.out.a
        obtain ⟨z0, z1, z2, z3, z4, z5, zz⟩ := cells6 H2.out.z
        have af0 := az 0
        have af1 := az 1
        have af2 := az 2
        have af3 := az 3
        have af4 := az 4
        have af5 := az 5
        have zf0 := zz 0
        have zf1 := zz 1
        have zf2 := zz 2
        have zf3 := zz 3
        have zf4 := zz 4
        have zf5 := zz 5
        clear az zz
        go_wp2
        rw [HNX.out]
        have HF := set6_heap ((set6_other (W := w2) (q := w.heap.size) (j := w.heap.size + 1) (by omega) (.int .i64 m) (.slice x n c) (.bool Wk.no.on) (.string (tx Wk.no.d)) (.string (tx Wk.no.bg)) (.int .i64 Wk.no.at_)).trans H2.out.z) (.int .i64 m) (.slice x n c) (.bool Wk.no.on) (.string (tx Wk.no.d)) (.string (tx Wk.no.bg)) (.int .i64 Wk.no.at_)
        refine bodyPost_ret (results_cell_tmp2 rfl _ _ (w.heap.size + 1) 41 _ (0, 0) _ rfl HF Try.underlying41 rfl (by kernel_rfl)) rfl ?_
        refine ⟨?_, set6_below (set6_below H2.out.bel (Nat.le_refl _) _ _ _ _ _ _) (show w.heap.size ≤ w.heap.size + 1 by omega) _ _ _ _ _ _⟩
        rw [HE.out, HDG.out.1]
        rfl
end Go.Proofs.Ytbaljpamhmbcjaa
/- Walk: Add of the reference. -/
namespace Go.Proofs.Ytbaljpamhmbcjaa
open Go.RowKit Go.Shelf
theorem place_zero (L : List Bs) (l : Bs) : placeI L l = 0 ↔ L.head? = some l := by
  unfold placeI
  cases L with
  | nil => simp [placeS_none (L := []) (s := l) (by simp)]
  | cons a t =>
    by_cases h : a = l
    · rw [placeS_some (L := a :: t) (s := l) (i := 0) (by simp) (by simpa using h) (by omega)]
      simp [h]
    · have : placeS (a :: t) l ≠ some 0 := fun q => by
        unfold placeS at q
        rw [List.find?_range_eq_some] at q
        have := q.1
        simp at this
        exact h this
      cases hp : placeS (a :: t) l with
      | none => simp [h]
      | some i =>
        cases i with
        | zero => exact absurd hp this
        | succ i => simp [h]; omega
theorem place_at {L : List Bs} {l : Bs} {j : Nat} (hn : L.Nodup) (hj : j < L.length) (h : L.getD j [] = l) : placeI L l = (j : Int) := by
  unfold placeI
  rw [placeS_some hj h (fun q hq e => ?_)]
  have h1 : L[q]'(by omega) = L[j] := by
    rw [List.getD_eq_getElem?_getD, List.getElem?_eq_getElem hj] at h
    rw [List.getD_eq_getElem?_getD, List.getElem?_eq_getElem (by omega)] at e
    simpa using e.trans h.symm
  exact (List.pairwise_iff_getElem.1 hn q j (by omega) hj hq) h1
theorem place_ne {L : List Bs} {l : Bs} {j : Nat} (h : ¬ L.getD j [] = l) : ¬ placeI L l = (j : Int) := fun q => by
  unfold placeI at q
  cases hp : placeS L l with
  | none => rw [hp] at q; simp at q
  | some i =>
    rw [hp] at q
    have q' : (i : Int) = (j : Int) := q
    have e : i = j := by omega
    subst e
    unfold placeS at hp
    rw [List.find?_range_eq_some] at hp
    have := hp.1
    rw [decide_eq_true_iff] at this
    exact h this
/-- Add's row, cut to so many. -/
def lnM (m : Nat) (L : List Bs) (l : Bs) (j : Nat) : List Bs := (lnA L l j).take m
theorem lnM_zero (m : Nat) (hm : 1 ≤ m) (L : List Bs) (l : Bs) : lnM m L l 0 = [l] := by
  unfold lnM lnA
  simp
  exact List.take_of_length_le (by simp; omega)
theorem lnM_same (m : Nat) (L : List Bs) (l : Bs) (j : Nat) (hj : j < L.length) (h : L.getD j [] = l) : lnM m L l (j + 1) = lnM m L l j := by
  unfold lnM
  rw [lnA_same L l j hj h]
theorem lnM_full (m : Nat) (L : List Bs) (l : Bs) (j : Nat) (hj : j < L.length) (h : ¬ L.getD j [] = l) (hf : ¬ (lnM m L l j).length < m) : lnM m L l (j + 1) = lnM m L l j := by
  unfold lnM at hf ⊢
  rw [lnA_step L l j hj h, List.take_append_of_le_length (by simp at hf; omega)]
theorem lnM_more (m : Nat) (L : List Bs) (l : Bs) (j : Nat) (hj : j < L.length) (h : ¬ L.getD j [] = l) (hf : (lnM m L l j).length < m) : lnM m L l (j + 1) = lnM m L l j ++ [L.getD j []] := by
  unfold lnM at hf ⊢
  rw [lnA_step L l j hj h]
  simp at hf
  rw [List.take_of_length_le (l := lnA L l j) (by omega), List.take_of_length_le (by simp; omega)]
theorem lnM_len (m : Nat) (L : List Bs) (l : Bs) (j : Nat) : (lnM m L l j).length ≤ j + 1 := by
  have := lnA_len L l j
  unfold lnM
  simp
  omega
theorem lnM_full_add (m : Nat) (L : List Bs) (l : Bs) (h1 : mayS l = true) (h2 : L.head? ≠ some l) : addL m L l = (true, lnM m L l L.length) := by
  unfold addL lnM lnA
  rw [if_pos ⟨h1, h2⟩, List.take_length]
set_option maxRecDepth 100000 in
set_option maxHeartbeats 4000000 in
theorem rAdd (m : Nat) (hm1 : 1 ≤ m) (hm2 : m ≤ 256) (x : Option Addr) (c : Nat) (L : List Bs) (hL : L.length ≤ 1000) (hnd : L.Nodup) (k : Wk) (s : Bs) (hs : s.length ≤ 10000) (w : World) (h : SeesL w x c L) :
    Calls Try.prog 37 #[rV m x L.length c k, .string (tx s)] w fun e w' => ∃ y d, e = .returned (.tuple #[rV m y (addL m L (flatS s)).2.length d Wk.no, .bool (addL m L (flatS s)).1]) ∧ SeesL w' y d (addL m L (flatS s)).2 ∧ Below w.heap.size w w' := by
  obtain ⟨ti, p1, p2, p3, p4⟩ := info_parts9
  have HP := Lib.hid (And.intro p1 (And.intro p2 (And.intro p3 p4)))
  have HH := Lib.hid h
  have HND := Lib.hid hnd
  have HF := Lib.hid (fun W => rflat s (by omega) W)
  have HMY := Lib.hid (fun W => rmay (flatS s) (by have := flatS_len s; omega) W)
  obtain ⟨l, hl⟩ : ∃ l, l = flatS s := ⟨_, rfl⟩
  rw [← hl] at HF HMY ⊢
  have HPL := Lib.hid (fun W hW => rplace x c L l (by omega) W hW)
  have HLV := Lib.hid (fun W => rLeave m x L.length c k W)
  have HE : Hid (∀ k x n c, rV m x n c k = .agg (hisCells m x n c k)) := Lib.hid (fun _ _ _ _ => rfl)
  obtain ⟨on, kd, kg, ka⟩ := k
  unfold rV hisCells at HLV
  have hkv : rV m x L.length c ⟨on, kd, kg, ka⟩ = .agg #[.int .i64 m, .slice x L.length c, .bool on, .string (tx kd), .string (tx kg), .int .i64 ka] := rfl
  rw [hkv]
  clear hkv
  simp only at HLV
  obtain ⟨n, hn⟩ : ∃ n, n = L.length := ⟨_, rfl⟩
  have HN := Lib.hid hn
  rw [← hn] at hL HLV HPL ⊢
  obtain ⟨D, hD⟩ : ∃ D, D = tx kd := ⟨_, rfl⟩
  obtain ⟨G, hG⟩ : ∃ D, D = tx kg := ⟨_, rfl⟩
  rw [← hD, ← hG] at HLV ⊢
  obtain ⟨T, hT⟩ : ∃ T, T = tx l := ⟨_, rfl⟩
  obtain ⟨S, hS⟩ : ∃ T, T = tx s := ⟨_, rfl⟩
  have HT := Lib.hid hT
  rw [← hT] at HF HMY HPL
  rw [← hS] at HF ⊢
  have HS0 := Lib.hid (RC.start w #[.int .i64 m, .slice x n c, .bool on, .string D, .string G, .int .i64 ka] zeroC)
  clear h hn hD hG hT hS hl hs p1 p2 p3 p4 hnd
  unfold zeroC at HS0
  go_enter Try.func37, Try.ntmps37
  go_wp2_with (first | (go_at_call 36; fail))
  go_at_call 36
  refine (HLV.out _).mono ?_
  rintro e w1 ⟨rfl, hb1⟩
  have H1 := Lib.hid (HS0.out.below hb1)
  clear hb1 HS0 HLV
  obtain ⟨a0, a1, a2, a3, a4, a5, az⟩ := cells6 H1.out.a
  have af0 := az 0
  have af1 := az 1
  have af2 := az 2
  have af3 := az 3
  have af4 := az 4
  have af5 := az 5
  clear az
  have H1a : Hid (RC w (hisCells m x n c Wk.no) zeroC ((((((w1.setCell ⟨w.heap.size, 0, none⟩ (.int .i64 m)).setCell ⟨w.heap.size, 1, none⟩ (.slice x n c)).setCell ⟨w.heap.size, 2, none⟩ (.bool Wk.no.on)).setCell ⟨w.heap.size, 3, none⟩ (.string (tx Wk.no.d))).setCell ⟨w.heap.size, 4, none⟩ (.string (tx Wk.no.bg))).setCell ⟨w.heap.size, 5, none⟩ (.int .i64 Wk.no.at_))) :=
    Lib.hid ⟨set6_heap H1.out.a _ _ _ _ _ _, (set6_other (by omega) _ _ _ _ _ _).trans H1.out.z, set6_below H1.out.bel (Nat.le_refl _) _ _ _ _ _ _⟩
  clear H1
  go_wp2_with (first | (go_at_call 47; fail))
  go_at_call 47
  refine (HF.out _).mono ?_
  rintro e w2 ⟨rfl, hb2⟩
  have H2 := Lib.hid (H1a.out.below hb2)
  clear hb2 H1a HF a0 a1 a2 a3 a4 a5 af0 af1 af2 af3 af4 af5
  obtain ⟨a0, a1, a2, a3, a4, a5, -⟩ := cells6 H2.out.a
  go_wp2_with (first | (go_at_call 48; (with_reducible refine (HPL.out _ (HH.out.below H2.out.bel)).mono ?_); rintro e w' ⟨rfl, rfl⟩) | (go_at_call 49; fail))
  go_at_call 49
  refine (HMY.out _).mono ?_
  rintro e w3 ⟨rfl, hb3⟩
  have H3 := Lib.hid (H2.out.below hb3)
  clear hb3 H2 HMY HPL a0 a1 a2 a3 a4 a5
  obtain ⟨a0, a1, a2, a3, a4, a5, az⟩ := cells6 H3.out.a
  have h3z := H3.out.z
  unfold zeroC at h3z
  obtain ⟨z0, z1, z2, z3, z4, z5, zz⟩ := cells6 h3z
  have hf : ∀ j, w3.frozen? ⟨w.heap.size + 1, j, none⟩ = false := zz
  have zf0 := hf 0
  have zf1 := hf 1
  have zf2 := hf 2
  have zf3 := hf 3
  have zf4 := hf 4
  have zf5 := hf 5
  clear zz hf
  have HPZ := Lib.hid (place_zero L l)
  have HPA := Lib.hid (fun j hj hh => place_at (L := L) (l := l) (j := j) HND.out hj hh)
  have HPN := Lib.hid (fun j hh => place_ne (L := L) (l := l) (j := j) hh)
  obtain ⟨P, hP⟩ : ∃ P, P = placeI L l := ⟨_, rfl⟩
  rw [← hP] at HPZ HPA ⊢
  simp only [← hP] at HPN
  clear hP
  obtain ⟨V, hV⟩ : ∃ V, V = mayS l := ⟨_, rfl⟩
  have HV := Lib.hid hV
  rw [← hV]
  clear hV
  by_cases hno : V = false ∨ P = 0
  · have HA : Hid (addL m L l = (false, L)) := Lib.hid (by
      unfold addL
      rw [if_neg (fun q => ?_)]
      rcases hno with e | e
      · rw [← HV.out, e] at q; cases q.1
      · exact q.2 (HPZ.out.1 e))
    have HFN := Lib.hid (set6_heap h3z (.int .i64 m) (.slice x n c) (.bool Wk.no.on) (.string (tx Wk.no.d)) (.string (tx Wk.no.bg)) (.int .i64 Wk.no.at_))
    have HBN := Lib.hid (set6_below H3.out.bel (show w.heap.size ≤ w.heap.size + 1 by omega) (.int .i64 m) (.slice x n c) (.bool Wk.no.on) (.string (tx Wk.no.d)) (.string (tx Wk.no.bg)) (.int .i64 Wk.no.at_))
    clear h3z
    cases V
    · go_wp2
      rw [HA.out]
      refine bodyPost_ret (results_cell_tmp rfl _ _ (w.heap.size + 1) 41 _ (0, 0) _ rfl HFN.out Try.underlying41 rfl (by kernel_rfl)) rfl ?_
      refine ⟨x, c, ?_, HH.out.below HBN.out, HBN.out⟩
      rw [HE.out, ← HN.out]
      rfl
    · obtain rfl : P = 0 := by rcases hno with e | e; · cases e
                               · exact e
      go_wp2
      rw [HA.out]
      refine bodyPost_ret (results_cell_tmp rfl _ _ (w.heap.size + 1) 41 _ (0, 0) _ rfl HFN.out Try.underlying41 rfl (by kernel_rfl)) rfl ?_
      refine ⟨x, c, ?_, HH.out.below HBN.out, HBN.out⟩
      rw [HE.out, ← HN.out]
      rfl
  · have hVt : V = true := by cases V; · exact absurd (.inl rfl) hno
                              · rfl
    subst hVt
    have hP0 : (P == 0) = false := by rw [beq_eq_false_iff_ne]; exact fun e => hno (.inr e)
    have HA := Lib.hid (lnM_full_add m L l HV.out.symm (fun e => hno (.inr (HPZ.out.2 e))))
    clear hno h3z zf0 zf1 zf2 zf3 zf4 zf5 z0 z1 z2 z3 z4 z5
    have H0 : Hid (Below w3.heap.size w3 (w3.alloc (.cells #[.string T] 9)) ∧ (w3.alloc (.cells #[.string T] 9)).ownsRow w3.heap.size 9 1 (.slice (some ⟨w3.heap.size, 0, none⟩) 1 1) (lnM m L l 0).length (strs (lnM m L l 0))) := Lib.hid ⟨(Below.refl _ _).alloc (Nat.le_refl _) _, by
      rw [lnM_zero m hm1, show strs [l] = [.string T] by rw [HT.out]; rfl]
      exact World.ownsRow_made1 w3 T⟩
    go_wp2
    clear a0 a1 a2 a3 a4 a5 az
    obtain ⟨W0, hW0⟩ : ∃ W0, W0 = w3.alloc (.cells #[.string T] 9) := ⟨_, rfl⟩
    rw [← hW0] at H0 ⊢
    clear hW0
    go_loopw [7, 8] (fun v i wr => ∃ j : Nat, i = .int .i64 (j : Int) ∧ j ≤ n ∧ Hid (Below w3.heap.size w3 wr ∧ wr.ownsRow w3.heap.size 9 1 v (lnM m L l j).length (strs (lnM m L l j)))) (fun _ i _ => n - (intOf i).toNat)
    case atStart => exact ⟨0, rfl, Nat.zero_le _, H0⟩
    case round =>
      clear H0
      obtain ⟨j, rfl, hj, HR⟩ := hrel
      have H4 := Lib.hid (H3.out.below HR.out.1)
      obtain ⟨a0, a1, a2, a3, a4, a5, az⟩ := cells6 H4.out.a
      obtain ⟨y, d, hy⟩ := ownsRow_is HR.out.2
      subst hy
      have hjl := lnM_len m L l j
      obtain ⟨N, hNN⟩ : ∃ N, N = (lnM m L l j).length := ⟨_, rfl⟩
      have HNN := Lib.hid hNN
      rw [← hNN] at hjl ⊢
      clear hNN
      have hNd : N ≤ d := by rw [HNN.out]; exact RowL.cap (row_base HR.out.2)
      have i1 : (0 : Int) ≤ (j : Int) := by omega
      by_cases hlt : j < n
      · have i2 : (j : Int) < (n : Int) := by omega
        have hjL : j < L.length := by have := HN.out; omega
        obtain ⟨g, rfl, hg, hget⟩ := (HH.out.below H4.out.bel).2.2 (by omega)
        have ce := hget j hjL
        obtain ⟨X, hX⟩ : ∃ X, X = tx (L.getD j []) := ⟨_, rfl⟩
        have HX := Lib.hid hX
        rw [← hX] at ce
        clear hX hget
        by_cases he : L.getD j [] = l
        · have hq : ((j : Int) != P) = false := by rw [HPA.out j hjL he]; simp
          have HS := Lib.hid (lnM_same m L l j hjL he)
          have HNX : Hid (Below w3.heap.size w3 wr ∧ wr.ownsRow w3.heap.size 9 1 (.slice y N d) (lnM m L l (j + 1)).length (strs (lnM m L l (j + 1)))) := Lib.hid (by rw [HS.out, HNN.out]; exact HR.out)
          clear he az hjL
          go_wp2
          go_roundw
          case rel => exact ⟨j + 1, by go_num, by omega, HNX⟩
          case measure => simp [intOf]; omega
        · have hq : ((j : Int) != P) = true := by rw [bne_iff_ne]; exact fun e => HPN.out j he e.symm
          by_cases hf : N < m
          · have hf1 : (N : Int) < (m : Int) := by omega
            have HS := Lib.hid (lnM_more m L l j hjL he (by rw [← HNN.out]; exact hf))
            have HRO : Hid (wr.ownsRow w3.heap.size 9 1 (.slice y N d) N (strs (lnM m L l j))) := Lib.hid (by rw [HNN.out]; exact HR.out.2)
            clear he az hjL
            go_wp2_with (at_builtin; go_loud (refine wpList_append_own _ rfl _ _ 22 rfl w3.heap.size 9 ti (.string ⟨#[]⟩) 1 16 Try.underlying22 HP.out.1 HP.out.2.1 HP.out.2.2.1 HP.out.2.2.2 rfl (by decide) _ _ _ rfl (HRO.out.alloc _) ⟨wr.heap.size, 0, none⟩ 1 1 [.string X] rfl rfl (cell_one_new _ _ _) (by simp [Value.oneCell']) (by unfold maxLen; omega) (by omega) (by have := HR.out.1.size; simp; omega) ?_))
            intro v' w5 ho hg5 _
            have HNX : Hid (Below w3.heap.size w3 w5 ∧ w5.ownsRow w3.heap.size 9 1 v' (lnM m L l (j + 1)).length (strs (lnM m L l (j + 1)))) := Lib.hid ⟨(HR.out.1.alloc HR.out.1.size (.cells #[.string X] 9)).grown hg5 (by have := HR.out.1.size; simp; omega) (fun q hq => (HRO.out.lt q hq).1), by
              rw [HS.out, strs_app, List.length_append, ← HNN.out, show strs [L.getD j []] = [.string X] by rw [HX.out]; rfl]
              exact ho⟩
            clear ho hg5
            go_wp2
            go_roundw
            case rel => exact ⟨j + 1, by go_num, by omega, HNX⟩
            case measure => simp [intOf]; omega
          · have hf1 : ¬ (N : Int) < (m : Int) := by omega
            have HS := Lib.hid (lnM_full m L l j hjL he (by rw [← HNN.out]; exact hf))
            have HNX : Hid (Below w3.heap.size w3 wr ∧ wr.ownsRow w3.heap.size 9 1 (.slice y N d) (lnM m L l (j + 1)).length (strs (lnM m L l (j + 1)))) := Lib.hid (by rw [HS.out, HNN.out]; exact HR.out)
            clear he az hjL
            go_wp2
            go_roundw
            case rel => exact ⟨j + 1, by go_num, by omega, HNX⟩
            case measure => simp [intOf]; omega
      · obtain rfl : j = n := by omega
        have i2 : ¬ (j : Int) < (j : Int) := by omega
        have hzc := H4.out.z
        unfold zeroC at hzc
        obtain ⟨z0, z1, z2, z3, z4, z5, zz⟩ := cells6 hzc
        have zf0 := zz 0
        have zf1 := zz 1
        have zf2 := zz 2
        have zf3 := zz 3
        have zf4 := zz 4
        have zf5 := zz 5
        have af1 := az 1
        have HSE : Hid (RowL wr y d (lnM m L l j) ∧ ∀ q, y.map (·.block) = some q → w3.heap.size ≤ q) := Lib.hid ⟨row_base HR.out.2, fun q hq => (HR.out.2.lt q (by cases y with | none => cases hq | some a => exact hq)).1⟩
        have HLN : Hid (addL m L l = (true, lnM m L l j)) := Lib.hid (by rw [HA.out, HN.out])
        have hw3 := Lib.hid (show w.heap.size + 1 < w3.heap.size from (Array.getElem?_eq_some_iff.1 H3.out.z).1)
        clear az zz HR hzc
        have HFN := Lib.hid (set6_heap ((set_other (w := wr) (b := w.heap.size) (j := w.heap.size + 1) (o := 1) (v := .slice y N d) (by omega)).trans H4.out.z) (.int .i64 m) (.slice y N d) (.bool Wk.no.on) (.string (tx Wk.no.d)) (.string (tx Wk.no.bg)) (.int .i64 Wk.no.at_))
        have HBN := Lib.hid (set6_below (H4.out.bel.setCell (p := ⟨w.heap.size, 1, none⟩) (Nat.le_refl _) (.slice y N d)) (show w.heap.size ≤ w.heap.size + 1 by omega) (.int .i64 m) (.slice y N d) (.bool Wk.no.on) (.string (tx Wk.no.d)) (.string (tx Wk.no.bg)) (.int .i64 Wk.no.at_))
        have HRW := Lib.hid (HSE.out.1.kept (fun q hq => (set6_other (W := wr.setCell ⟨w.heap.size, 1, none⟩ (.slice y N d)) (q := w.heap.size + 1) (j := q) (by have := HSE.out.2 q hq; have := hw3.out; omega) (.int .i64 m) (.slice y N d) (.bool Wk.no.on) (.string (tx Wk.no.d)) (.string (tx Wk.no.bg)) (.int .i64 Wk.no.at_)).trans (set_other (by have := HSE.out.2 q hq; have := hw3.out; omega))))
        go_wp2
        rw [HLN.out]
        refine bodyPost_ret (results_cell_tmp rfl _ _ (w.heap.size + 1) 41 _ (0, 0) _ rfl HFN.out Try.underlying41 rfl (by kernel_rfl)) rfl ?_
        refine ⟨y, d, ?_, HRW.out.sees (by have h9 : (lnM m L l j).length ≤ m := (by unfold lnM; simp; omega); omega), HBN.out⟩
        rw [HE.out, ← HNN.out]
        rfl
end Go.Proofs.Ytbaljpamhmbcjaa
