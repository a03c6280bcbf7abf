/- Walks: the reference's Stand. -/
import Derived.Test.YtdehjofmangmbaaGreatFD
namespace Go.Proofs.YtdehjofmangmbaaGreat
open Go.RowKit Go.Shelf
theorem besS_iff {o wd : List Bs} {x : Nat} : x ∈ besS o wd ↔ isAt o wd x = true := by
  refine ⟨fun h => (besS_mem h).2, fun h => ?_⟩
  have h2 : x + wd.length ≤ o.length := by unfold isAt at h; exact (of_decide_eq_true h).1
  unfold besS
  rw [List.mem_filter]
  exact ⟨by simp; omega, h⟩
theorem getD_mem {l : List Nat} {j : Nat} (h : j < l.length) : l.getD j 0 ∈ l := by
  rw [List.getD_eq_getElem?_getD, List.getElem?_eq_getElem h]; exact List.getElem_mem h
theorem st_ne {o wd : List Bs} (h : isAt o wd 0 = false) : wd ≠ [] := fun e => by
  subst e
  unfold isAt at h
  simp at h
theorem st_zero {o wd : List Bs} (h : isAt o wd 0 = true) : fndS o wd = some ⟨if wd.length = o.length then 0 else 1, 0, runN 0 wd.length⟩ := by
  have hm := besS_iff.2 h
  have hp := List.length_pos_of_mem hm
  refine fnd_zero hp ?_
  obtain ⟨j, hj, e⟩ := List.getElem_of_mem hm
  have := inc_span (besS_inc o wd) j hj
  have ej : (besS o wd).getD j 0 = 0 := by rw [List.getD_eq_getElem?_getD, List.getElem?_eq_getElem hj]; exact e
  omega
theorem st_same {wd : List Bs} : isAt wd wd 0 = true := by unfold isAt; simp
theorem st_len {o wd : List Bs} (h : isAt o wd 0 = true) (hne : ¬ o = wd) : ¬ wd.length = o.length := fun e => by
  unfold isAt at h
  have := (of_decide_eq_true h).2
  rw [e, List.drop_zero, List.take_length] at this
  exact hne this
theorem st_head {o wd : List Bs} (h : isAt o wd 0 = false) (hp : 0 < (besS o wd).length) : (besS o wd).getD 0 0 ≠ 0 := fun e => by
  have := besS_iff.1 (getD_mem hp)
  rw [e, h] at this
  cases this
theorem st_two {o wd : List Bs} {i : Nat} (h0 : isAt o wd 0 = false) (hi : isAt o wd i = true) (hl : ltr (o.getD (i - 1) []) = false) (hq : ∀ q, q < i → isAt o wd q = true → ltr (o.getD (q - 1) []) = true) : fndS o wd = some ⟨2, 0, runN i wd.length⟩ := by
  have hm := besS_iff.2 hi
  obtain ⟨j, hj, e⟩ := List.getElem_of_mem hm
  have ej : (besS o wd).getD j 0 = i := by rw [List.getD_eq_getElem?_getD, List.getElem?_eq_getElem hj]; exact e
  have h := fnd_hit hj (st_head h0 (by omega)) (by rw [ej]; exact hl) (fun q hqj => by
    have h1 := List.pairwise_iff_getElem.1 (besS_inc o wd) q j (by omega) hj hqj
    have eq : (besS o wd).getD q 0 = (besS o wd)[q] := by rw [List.getD_eq_getElem?_getD, List.getElem?_eq_getElem (by omega)]; rfl
    exact hq _ (by rw [eq]; omega) (besS_iff.1 (getD_mem (by omega))))
  rw [h, ej]
theorem st_three {o wd : List Bs} {i : Nat} (h0 : isAt o wd 0 = false) (hi : isAt o wd i = true) (hl : ∀ q, isAt o wd q = true → ltr (o.getD (q - 1) []) = true) (hq : ∀ q, q < i → isAt o wd q = false) : fndS o wd = some ⟨3, 0, runN i wd.length⟩ := by
  have hm := besS_iff.2 hi
  have hp := List.length_pos_of_mem hm
  have h := fnd_last hp (st_head h0 hp) (fun q hqj => hl _ (besS_iff.1 (getD_mem hqj)))
  obtain ⟨j, hj, e⟩ := List.getElem_of_mem hm
  have h1 := inc_span (besS_inc o wd) j hj
  have ej : (besS o wd).getD j 0 = i := by rw [List.getD_eq_getElem?_getD, List.getElem?_eq_getElem hj]; exact e
  have e0 : (besS o wd).getD 0 0 = i := by
    rcases Nat.lt_or_ge ((besS o wd).getD 0 0) i with q | q
    · have := besS_iff.1 (getD_mem hp)
      rw [hq _ q] at this
      cases this
    · omega
  rw [h, e0]
theorem st_four {o wd : List Bs} (h : ∀ q, q < o.length → isAt o wd q = false) (h0 : isAt o wd 0 = false) : fndS o wd = sprS o wd := by
  refine fnd_nil ?_
  cases hb : besS o wd with
  | nil => rfl
  | cons p r =>
    exfalso
    have hp : p ∈ besS o wd := by rw [hb]; simp
    obtain ⟨h1, h2⟩ := besS_mem hp
    have := List.length_pos_iff.2 (st_ne h0)
    rw [h p (by omega)] at h2
    cases h2
theorem rfd_put {T : TypeId} {w W : World} {z0 z1 z2 : Value} {x : Option Addr} {c r : Nat} {l : List Nat} (hz : C3 T W w.heap.size z0 z1 z2) (hT : T ≠ 3) (hI : IntO w.heap.size W (.slice x l.length c) l) (hB : Below w.heap.size w W) (g : Nat) :
    C3 T (put3 W w.heap.size (.bool true) (.int .i64 r) (.slice x l.length c)) w.heap.size (.bool true) (.int .i64 r) (.slice x l.length c) ∧ RfO w.heap.size (put3 W w.heap.size (.bool true) (.int .i64 r) (.slice x l.length c)) (.agg #[.bool true, .int .i64 r, .slice x l.length c]) (some ⟨r, g, l⟩) ∧ Below w.heap.size w (put3 W w.heap.size (.bool true) (.int .i64 r) (.slice x l.length c)) :=
  ⟨hz.put, ⟨x, c, rfl, hI.put3 hz hT⟩, below_put3 hB (Nat.le_refl _)⟩
set_option maxRecDepth 100000 in
set_option maxHeartbeats 1500000 in
theorem rstand (vo vw : Value) (o wd : List Bs) (ho : ∀ c ∈ o, c ≠ []) (w : World) (h1 : TxV w vo o) (h2 : TxV w vw wd) : Calls Tryz.prog 31 #[vo, vw] w (RfEnd (fndS o wd) w) := by
  have HBE := Lib.hid (fun (i : Nat) (hi : i ≤ o.length) (W : World) (hB : Below w.heap.size w W) => rbeside vo vw o wd i hi W (h1.below hB) (h2.below hB))
  have HSA := Lib.hid (fun (W : World) (hB : Below w.heap.size w W) => rsame vo vw o wd W (h1.below hB) (h2.below hB))
  have HAP := Lib.hid (fun (hw : wd ≠ []) (W : World) (hB : Below w.heap.size w W) => rapart vo vw o wd hw W (h1.below hB) (h2.below hB))
  unfold RfEnd at HAP
  have HOV := Lib.hid (fun (W : World) (hB : Below w.heap.size w W) => (h1.below hB).old)
  have HON := Lib.hid ho
  obtain ⟨xo, co, rfl, _, hn6, _⟩ := h1.old
  obtain ⟨xw, cw, rfl, _, hm6, _⟩ := h2.old
  obtain ⟨n, hn⟩ : ∃ n, n = o.length := ⟨_, rfl⟩
  have HN := Lib.hid hn
  obtain ⟨m, hm⟩ : ∃ m, m = wd.length := ⟨_, rfl⟩
  have HM := Lib.hid hm
  have HZ0 : Hid (C3 47 (w.alloc (.cells #[.bool false, .int .i64 0, .slice none 0 0] 47)) w.heap.size (.bool false) (.int .i64 0) (.slice none 0 0)) := Lib.hid (heap_alloc_new _ _)
  have HB0 : Hid (Below w.heap.size w (w.alloc (.cells #[.bool false, .int .i64 0, .slice none 0 0] 47))) := Lib.hid ((Below.refl _ _).alloc (Nat.le_refl _) _)
  have HRU := Lib.hid (fun (a : Nat) (ha : a ≤ 1000000) (W : World) => rrun a m ha (by omega) W)
  rw [← hn] at hn6 HBE HAP HOV HSA ⊢
  rw [← hm] at hm6 HBE HAP HSA ⊢
  clear h1 h2 hn hm ho
  go_enter Tryz.func31, Tryz.ntmps31
  go_wp2_with (first | (go_at_call 12; fail))
  generalize (w.alloc (.cells #[.bool false, .int .i64 0, .slice none 0 0] 47)) = W0 at HZ0 HB0 ⊢
  refine (HSA.out W0 HB0.out).mono ?_
  rintro e w1 ⟨rfl, hb1⟩
  have HB1 := Lib.hid (HB0.out.trans (below_le hb1 HB0.out.size))
  have HZ1 := Lib.hid (HZ0.out.below hb1)
  clear hb1 HSA HZ0 HB0
  obtain ⟨S, hS⟩ : ∃ S, S = decide (o = wd) := ⟨_, rfl⟩
  rw [← hS]
  cases S
  · have hne : ¬ o = wd := of_decide_eq_false hS.symm
    have HNE := Lib.hid hne
    have HBZ : Hid (∀ W, Below w.heap.size w W → Calls Tryz.prog 56 #[.slice xo n co, .slice xw m cw, .int .i64 0] W fun e w' => e = .returned (.bool (isAt o wd 0)) ∧ Below W.heap.size W w') := Lib.hid (fun W hW => HBE.out 0 (Nat.zero_le _) W hW)
    clear hS hne
    go_wp2_with (first | (go_at_call 56; fail))
    refine (HBZ.out w1 HB1.out).mono ?_
    rintro e w2 ⟨rfl, hb2⟩
    have HB2 := Lib.hid (HB1.out.trans (below_le hb2 HB1.out.size))
    have HZ2 := Lib.hid (HZ1.out.below hb2)
    clear hb2 HBZ HZ1 HB1
    obtain ⟨S, hS⟩ : ∃ S, S = isAt o wd 0 := ⟨_, rfl⟩
    rw [← hS]
    have HS0 := Lib.hid hS
    clear hS
    cases S
    · go_wp2
      have H1 : Hid (Below w.heap.size w w2 ∧ C3 47 w2 w.heap.size (.bool false) (.int .i64 0) (.slice none 0 0)) := Lib.hid ⟨HB2.out, HZ2.out⟩
      clear HB2 HZ2
      go_loopw [5] (fun iv wr => ∃ y : Nat, iv = .int .i64 ((y : Int) + 1) ∧ y ≤ n ∧ Hid (∀ q, q < y + 1 → isAt o wd q = true → ltr (o.getD (q - 1) []) = true) ∧ Hid (Below w.heap.size w wr ∧ C3 47 wr w.heap.size (.bool false) (.int .i64 0) (.slice none 0 0))) (fun iv _ => n + 1 - (intOf iv).toNat)
      case atStart => exact ⟨0, rfl, Nat.zero_le _, Lib.hid (fun q h h2 => by
        obtain rfl : q = 0 := by omega
        rw [← HS0.out] at h2; cases h2), H1⟩
      case round =>
        clear H1
        obtain ⟨y, rfl, hy, HQ, HI⟩ := hrel
        have i1 : (0 : Int) ≤ (y : Int) := by omega
        by_cases hlt : y + 1 < n
        · have i2 : (y : Int) + 1 < (n : Int) := by omega
          have hyn : y < n := by omega
          obtain ⟨xo', co', hv', _, _, hg'⟩ := HOV.out wr HI.out.1
          obtain ⟨g, off, rfl, hg, hget⟩ := hg' (List.ne_nil_of_length_pos (by have := HN.out; omega))
          obtain ⟨rfl, rfl⟩ : xo = some ⟨g, off, none⟩ ∧ co = co' := by simpa using hv'
          have cy := hget y (by have := HN.out; omega)
          have HLT := Lib.hid (fun W => rletter (o.getD y []) (HON.out _ (by rw [List.getD_eq_getElem?_getD, List.getElem?_eq_getElem (by have := HN.out; omega)]; exact List.getElem_mem _)) W)
          generalize tx (o.getD y []) = U at cy HLT
          obtain ⟨b, hb⟩ : ∃ b, b = ltr (o.getD y []) := ⟨_, rfl⟩
          rw [← hb] at HLT
          have HBT := Lib.hid hb
          clear hb hv' hg' hget
          cases b
          · have HBE2 : Hid (Calls Tryz.prog 56 #[.slice (some ⟨g, off, none⟩) n co, .slice xw m cw, .int .i64 ((y : Int) + 1)] wr fun e w' => e = .returned (.bool (isAt o wd (y + 1))) ∧ Below wr.heap.size wr w') := Lib.hid (by
              have h := HBE.out (y + 1) (by have := HN.out; omega) wr HI.out.1
              exact h)
            go_wp2_with (first | (go_at_call 57; refine (HLT.out _).mono ?_; rintro e w9 ⟨rfl, rfl⟩) | (go_at_call 56; fail))
            go_at_call 56
            refine HBE2.out.mono ?_
            rintro e w5 ⟨rfl, hb5⟩
            have HI5 : Hid (Below w.heap.size w w5 ∧ C3 47 w5 w.heap.size (.bool false) (.int .i64 0) (.slice none 0 0)) := Lib.hid ⟨HI.out.1.trans (below_le hb5 HI.out.1.size), HI.out.2.below hb5⟩
            have HB5 := Lib.hid HI5.out.1
            have HZ5 := Lib.hid HI5.out.2
            clear hb5 HBE2 cy
            obtain ⟨D, hD⟩ : ∃ D, D = isAt o wd (y + 1) := ⟨_, rfl⟩
            rw [← hD]
            have HD := Lib.hid hD
            clear hD
            cases D
            · go_wp2
              go_roundw
              case rel => exact ⟨y + 1, by go_num, by omega, Lib.hid (fun q h h2 => by
                by_cases e : q = y + 1
                · rw [e, ← HD.out] at h2; cases h2
                · exact HQ.out q (by omega) h2), HI5⟩
              case measure => simp [intOf] <;> omega
            · have HR : Hid (fndS o wd = some ⟨2, 0, runN (y + 1) m⟩) := Lib.hid (by rw [st_two HS0.out.symm HD.out.symm (by exact HBT.out.symm) HQ.out, ← HM.out])
              have HRUN : Hid (∀ W, Calls Tryz.prog 55 #[.int .i64 ((y : Int) + 1), .int .i64 m] W fun e w' => ∃ v, e = .returned v ∧ IntO W.heap.size w' v (runN (y + 1) m) ∧ Below W.heap.size W w') := Lib.hid (fun W => HRU.out (y + 1) (by omega) W)
              go_wp2_with (first | (go_at_call 55; fail))
              refine (HRUN.out w5).mono ?_
              rintro e w6 ⟨v2, rfl, hI2, hb2⟩
              obtain ⟨x2, c2, rfl⟩ := hI2.is
              have HZ6 := Lib.hid (HZ5.out.below hb2)
              have HB6 := Lib.hid (HB5.out.trans (below_le hb2 HB5.out.size))
              have HI2 := Lib.hid (hI2.mono HB5.out.size)
              have HPZ := Lib.hid (rfd_put (r := 2) HZ6.out (by decide) HI2.out HB6.out 0)
              obtain ⟨e0, e1, e2, f0, f1, f2⟩ := HZ6.out.cells
              unfold put3 at HPZ
              rw [runN_len] at HPZ ⊢
              clear hI2 hb2 HRUN HI2
              go_wp2
              refine bodyPost_ret (results_cell rfl _ _ w.heap.size 47 _ _ _ rfl HPZ.out.1 Tryz.underlying47 rfl (by kernel_rfl)) rfl ?_
              rw [HR.out]
              exact ⟨_, rfl, HPZ.out.2.1, HPZ.out.2.2⟩
          · go_wp2_with (first | (go_at_call 57; refine (HLT.out _).mono ?_; rintro e w9 ⟨rfl, rfl⟩))
            go_roundw
            case rel => exact ⟨y + 1, by go_num, by omega, Lib.hid (fun q h h2 => by
              by_cases e : q = y + 1
              · rw [e]; exact HBT.out.symm
              · exact HQ.out q (by omega) h2), HI⟩
            case measure => simp [intOf] <;> omega
        · have i2 : ¬ (y : Int) + 1 < (n : Int) := by omega
          have HAL : Hid (∀ q, isAt o wd q = true → ltr (o.getD (q - 1) []) = true) := Lib.hid (fun q h => by
            have h2 := (besS_mem (besS_iff.2 h)).1
            have h3 := List.length_pos_iff.2 (st_ne HS0.out.symm)
            exact HQ.out q (by have := HN.out; omega) h)
          clear HQ
          go_wp2
          go_loopw [6] (fun iv wr => ∃ z : Nat, iv = .int .i64 ((z : Int) + 1) ∧ z ≤ n ∧ Hid (∀ q, q < z + 1 → isAt o wd q = false) ∧ Hid (Below w.heap.size w wr ∧ C3 47 wr w.heap.size (.bool false) (.int .i64 0) (.slice none 0 0))) (fun iv _ => n + 1 - (intOf iv).toNat)
          case atStart => exact ⟨0, rfl, Nat.zero_le _, Lib.hid (fun q h => by
            obtain rfl : q = 0 := by omega
            exact HS0.out.symm), HI⟩
          case round =>
            clear HI
            obtain ⟨z, rfl, hz, HQ2, HJ⟩ := hrel
            have i3 : (0 : Int) ≤ (z : Int) := by omega
            by_cases hlt2 : z + 1 < n
            · have i4 : (z : Int) + 1 < (n : Int) := by omega
              have HBE2 : Hid (Calls Tryz.prog 56 #[.slice xo n co, .slice xw m cw, .int .i64 ((z : Int) + 1)] wr fun e w' => e = .returned (.bool (isAt o wd (z + 1))) ∧ Below wr.heap.size wr w') := Lib.hid (by
                have h := HBE.out (z + 1) (by have := HN.out; omega) wr HJ.out.1
                exact h)
              go_wp2_with (first | (go_at_call 56; fail))
              refine HBE2.out.mono ?_
              rintro e w5 ⟨rfl, hb5⟩
              have HI5 : Hid (Below w.heap.size w w5 ∧ C3 47 w5 w.heap.size (.bool false) (.int .i64 0) (.slice none 0 0)) := Lib.hid ⟨HJ.out.1.trans (below_le hb5 HJ.out.1.size), HJ.out.2.below hb5⟩
              have HB5 := Lib.hid HI5.out.1
              have HZ5 := Lib.hid HI5.out.2
              clear hb5 HBE2
              obtain ⟨D, hD⟩ : ∃ D, D = isAt o wd (z + 1) := ⟨_, rfl⟩
              rw [← hD]
              have HD := Lib.hid hD
              clear hD
              cases D
              · go_wp2
                go_roundw
                case rel => exact ⟨z + 1, by go_num, by omega, Lib.hid (fun q h => by
                  by_cases e : q = z + 1
                  · rw [e]; exact HD.out.symm
                  · exact HQ2.out q (by omega)), HI5⟩
                case measure => simp [intOf] <;> omega
              · have HR : Hid (fndS o wd = some ⟨3, 0, runN (z + 1) m⟩) := Lib.hid (by rw [st_three HS0.out.symm HD.out.symm HAL.out HQ2.out, ← HM.out])
                have HRUN : Hid (∀ W, Calls Tryz.prog 55 #[.int .i64 ((z : Int) + 1), .int .i64 m] W fun e w' => ∃ v, e = .returned v ∧ IntO W.heap.size w' v (runN (z + 1) m) ∧ Below W.heap.size W w') := Lib.hid (fun W => HRU.out (z + 1) (by omega) W)
                go_wp2_with (first | (go_at_call 55; fail))
                refine (HRUN.out w5).mono ?_
                rintro e w6 ⟨v2, rfl, hI2, hb2⟩
                obtain ⟨x2, c2, rfl⟩ := hI2.is
                have HZ6 := Lib.hid (HZ5.out.below hb2)
                have HB6 := Lib.hid (HB5.out.trans (below_le hb2 HB5.out.size))
                have HI2 := Lib.hid (hI2.mono HB5.out.size)
                have HPZ := Lib.hid (rfd_put (r := 3) HZ6.out (by decide) HI2.out HB6.out 0)
                obtain ⟨e0, e1, e2, f0, f1, f2⟩ := HZ6.out.cells
                unfold put3 at HPZ
                rw [runN_len] at HPZ ⊢
                clear hI2 hb2 HRUN HI2
                go_wp2
                refine bodyPost_ret (results_cell rfl _ _ w.heap.size 47 _ _ _ rfl HPZ.out.1 Tryz.underlying47 rfl (by kernel_rfl)) rfl ?_
                rw [HR.out]
                exact ⟨_, rfl, HPZ.out.2.1, HPZ.out.2.2⟩
            · have i4 : ¬ (z : Int) + 1 < (n : Int) := by omega
              have HR := Lib.hid (st_four (o := o) (wd := wd) (fun q h => HQ2.out q (by have := HN.out; omega)) HS0.out.symm)
              have HAP2 := Lib.hid (HAP.out (st_ne HS0.out.symm) wr HJ.out.1)
              go_wp2_with (first | (go_at_call 58; fail))
              refine HAP2.out.mono ?_
              rintro e w5 ⟨v5, rfl, ⟨x5, c5, rfl, hI5⟩, hb5⟩
              have HB5 := Lib.hid (HJ.out.1.trans (below_le hb5 HJ.out.1.size))
              have HZ5 := Lib.hid (HJ.out.2.below hb5)
              have HI5 := Lib.hid (hI5.mono HJ.out.1.size)
              obtain ⟨e0, e1, e2, f0, f1, f2⟩ := HZ5.out.cells
              have HPZ := Lib.hid (And.intro (HZ5.out.put (a' := .bool (sprS o wd).isSome) (b' := .int .i64 (fnd0 (sprS o wd)).rank) (c' := .slice x5 (fnd0 (sprS o wd)).at_.length c5)) (And.intro (HI5.out.put3 (a' := .bool (sprS o wd).isSome) (b2 := .int .i64 (fnd0 (sprS o wd)).rank) (c2 := .slice x5 (fnd0 (sprS o wd)).at_.length c5) HZ5.out (by decide)) (below_put3 (a := .bool (sprS o wd).isSome) (b := .int .i64 (fnd0 (sprS o wd)).rank) (c := .slice x5 (fnd0 (sprS o wd)).at_.length c5) HB5.out (Nat.le_refl w.heap.size))))
              unfold put3 at HPZ
              clear hI5 hb5 HAP2
              go_wp2
              refine bodyPost_ret (results_cell rfl _ _ w.heap.size 47 _ _ _ rfl HPZ.out.1 Tryz.underlying47 rfl (by kernel_rfl)) rfl ?_
              rw [HR.out]
              exact ⟨_, rfl, ⟨x5, c5, rfl, HPZ.out.2.1⟩, HPZ.out.2.2⟩
    · have HR : Hid (fndS o wd = some ⟨1, 0, runN 0 m⟩) := Lib.hid (by rw [st_zero HS0.out.symm, if_neg (st_len HS0.out.symm HNE.out), ← HM.out])
      have HRUN : Hid (∀ W, Calls Tryz.prog 55 #[.int .i64 0, .int .i64 m] W fun e w' => ∃ v, e = .returned v ∧ IntO W.heap.size w' v (runN 0 m) ∧ Below W.heap.size W w') := Lib.hid (fun W => HRU.out 0 (by omega) W)
      go_wp2_with (first | (go_at_call 55; fail))
      refine (HRUN.out w2).mono ?_
      rintro e w3 ⟨v2, rfl, hI2, hb2⟩
      obtain ⟨x2, c2, rfl⟩ := hI2.is
      have HZ3 := Lib.hid (HZ2.out.below hb2)
      have HB3 := Lib.hid (HB2.out.trans (below_le hb2 HB2.out.size))
      have HI2 := Lib.hid (hI2.mono HB2.out.size)
      have HPZ := Lib.hid (rfd_put (r := 1) HZ3.out (by decide) HI2.out HB3.out 0)
      obtain ⟨e0, e1, e2, f0, f1, f2⟩ := HZ3.out.cells
      unfold put3 at HPZ
      rw [runN_len] at HPZ ⊢
      clear hI2 hb2 HRUN HI2
      go_wp2
      refine bodyPost_ret (results_cell rfl _ _ w.heap.size 47 _ _ _ rfl HPZ.out.1 Tryz.underlying47 rfl (by kernel_rfl)) rfl ?_
      rw [HR.out]
      exact ⟨_, rfl, HPZ.out.2.1, HPZ.out.2.2⟩
  · have hwd : o = wd := of_decide_eq_true hS.symm
    have HR : Hid (fndS o wd = some ⟨0, 0, runN 0 m⟩) := Lib.hid (by rw [hwd, st_zero st_same, if_pos rfl, ← HM.out])
    have HRUN : Hid (∀ W, Calls Tryz.prog 55 #[.int .i64 0, .int .i64 m] W fun e w' => ∃ v, e = .returned v ∧ IntO W.heap.size w' v (runN 0 m) ∧ Below W.heap.size W w') := Lib.hid (fun W => HRU.out 0 (by omega) W)
    clear hwd hS
    go_wp2_with (first | (go_at_call 55; fail))
    refine (HRUN.out w1).mono ?_
    rintro e w2 ⟨v2, rfl, hI2, hb2⟩
    obtain ⟨x2, c2, rfl⟩ := hI2.is
    have HZ2 := Lib.hid (HZ1.out.below hb2)
    have HB2 := Lib.hid (HB1.out.trans (below_le hb2 HB1.out.size))
    have HI2 := Lib.hid (hI2.mono HB1.out.size)
    have HPZ := Lib.hid (rfd_put (r := 0) HZ2.out (by decide) HI2.out HB2.out 0)
    obtain ⟨e0, e1, e2, f0, f1, f2⟩ := HZ2.out.cells
    unfold put3 at HPZ
    rw [runN_len] at HPZ ⊢
    clear hI2 hb2 HRUN HI2
    go_wp2
    refine bodyPost_ret (results_cell rfl _ _ w.heap.size 47 _ _ _ rfl HPZ.out.1 Tryz.underlying47 rfl (by kernel_rfl)) rfl ?_
    rw [HR.out]
    exact ⟨_, rfl, HPZ.out.2.1, HPZ.out.2.2⟩
end Go.Proofs.YtdehjofmangmbaaGreat
