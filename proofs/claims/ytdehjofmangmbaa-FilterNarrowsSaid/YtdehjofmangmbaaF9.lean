/- Walks: beside of both sides. -/
import Derived.Test.YtdehjofmangmbaaF8
namespace Go.Proofs.Ytdehjofmangmbaa
open Go.RowKit Go.Shelf
theorem TxV.sub2 {W : World} {g off c : Nat} {L : List Bs} (hg : g < W.heap.size) (hget : ∀ i, i < L.length → W.cell? ⟨g, off + i, none⟩ = some (.string (tx (L.getD i [])))) {i m : Nat} (hk : i + m ≤ L.length) (hc : L.length ≤ c) (hL : L.length ≤ 1000000) : TxV W (.slice (some ⟨g, off + i, none⟩) m (c - i)) ((L.drop i).take m) := by
  have hl : ((L.drop i).take m).length = m := by rw [List.length_take, List.length_drop]; omega
  refine ⟨by rw [hl]; omega, .inr ⟨g, off + i, c - i, by rw [hl], by rw [hl]; omega, hg, fun j hj => ?_⟩⟩
  rw [hl] at hj
  rw [Nat.add_assoc, hget (i + j) (by omega)]
  congr 3
  rw [List.getD_eq_getElem?_getD, List.getD_eq_getElem?_getD, List.getElem?_take_of_lt hj, List.getElem?_drop]
theorem at_yes {o w : List Bs} {i : Nat} (h : i + w.length ≤ o.length) : isAt o w i = decide ((o.drop i).take w.length = w) := by
  unfold isAt
  rw [decide_eq_decide]
  exact ⟨fun q => q.2, fun q => ⟨h, q⟩⟩
theorem at_no {o w : List Bs} {i : Nat} (h : ¬ i + w.length ≤ o.length) : isAt o w i = false := decide_eq_false (fun q => h q.1)
theorem filter_yes {p : Nat → Bool} {j : Nat} (h : p j = true) : (List.range (j + 1)).filter p = (List.range j).filter p ++ [j] := by rw [List.range_succ, List.filter_append]; simp [h]
theorem filter_no {p : Nat → Bool} {j : Nat} (h : p j = false) : (List.range (j + 1)).filter p = (List.range j).filter p := by rw [List.range_succ, List.filter_append]; simp [h]
theorem filter_le (p : Nat → Bool) (j : Nat) : ((List.range j).filter p).length ≤ j := by
  have := List.length_filter_le p (List.range j)
  simpa using this
theorem IntO.push {b : Nat} {W w4 : World} {v v' : Value} {l : List Nat} {j : Nat} (_h : IntO b W v l) (ho : w4.ownsRow b 3 1 v' (l.length + 1) (ints l ++ [.int .i64 (j : Int)])) : IntO b w4 v' (l ++ [j]) := by
  unfold IntO
  rw [ints_app, List.length_append]
  exact ho
set_option maxRecDepth 100000 in
set_option maxHeartbeats 400000 in
theorem wbeside (vo vw : Value) (o wd : List Bs) (w : World) (h1 : TxV w vo o) (h2 : TxV w vw wd) : Calls Try.prog 23 #[vo, vw] w fun e w' => ∃ v, e = .returned v ∧ IntO w.heap.size w' v (besS o wd) ∧ Below w.heap.size w w' := by
  have HW := Lib.hid h2
  obtain ⟨xw, cw, hvw, _, hm6, _⟩ := h2.old
  obtain ⟨m, hm⟩ : ∃ m, m = wd.length := ⟨_, rfl⟩
  have HM := Lib.hid hm
  rw [← hm] at hvw hm6
  clear h2
  obtain ⟨hn6, ⟨rfl, rfl⟩ | ⟨g, off, c, rfl, hc, hg, hget⟩⟩ := h1
  · have HN : Hid (0 = ([] : List Bs).length) := Lib.hid rfl
    subst hvw
    clear hm hn6
    obtain ⟨i3, hi, hi0, hi1, hi2⟩ := info_parts3
    have HP := Lib.hid (And.intro hi (And.intro hi0 (And.intro hi1 hi2)))
    have HBES : Hid (besS [] wd = (List.range (([] : List Bs).length + 1 - wd.length)).filter (isAt [] wd)) := Lib.hid rfl
    clear hi hi0 hi1 hi2
    go_enter Try.func23, Try.ntmps23
    go_wp2
    go_loopw [5, 6] (fun v i wr => ∃ j : Nat, i = .int .i64 (j : Int) ∧ j ≤ 0 + 1 - m ∧ Hid (IntO w.heap.size wr v ((List.range j).filter (isAt [] wd))) ∧ Hid (Below w.heap.size w wr)) (fun _ i _ => 0 + 1 - m - (intOf i).toNat)
    case atStart => exact ⟨0, rfl, Nat.zero_le _, Lib.hid (IntO.nil _ _), Lib.hid (Below.refl _ _)⟩
    case round =>
      obtain ⟨j, rfl, hj, HI, HB⟩ := hrel
      obtain ⟨xv, cv, hxv⟩ := HI.out.is
      subst hxv
      have hfl := filter_le (isAt [] wd) j
      have hbs := HB.out.size
      by_cases hlt : j + m ≤ 0
      · have i2 : (j : Int) + (m : Int) ≤ 0 := by omega
        have hj0 : j = 0 := by omega
        have hm0 : m = 0 := by omega
        subst hj0
        subst hm0
        have HQ := Lib.hid (wequal _ _ _ _ wr (show TxV wr (.slice none 0 0) ((([] : List Bs).drop 0).take wd.length) by rw [← HM.out]; exact TxV.nil _) (HW.out.below HB.out))
        have HAT := Lib.hid (at_yes (o := []) (w := wd) (i := 0) (by have := HN.out; have := HM.out; omega))
        obtain ⟨D, hD⟩ : ∃ D, D = decide ((([] : List Bs).drop 0).take wd.length = wd) := ⟨_, rfl⟩
        rw [← hD] at HAT
        have HQ2 : Hid (Calls Try.prog 43 #[.slice none 0 0, .slice xw 0 cw] wr fun e w' => e = .returned (.bool D) ∧ Below wr.heap.size wr w') := Lib.hid (by rw [hD, ← HM.out]; have h := HQ.out; rw [← HM.out] at h; exact h)
        clear HQ hD
        go_wp2_with (first | (go_at_call 43; fail))
        go_at_call 43
        refine HQ2.out.mono ?_
        rintro e w3 ⟨rfl, hb3⟩
        have HI3 := Lib.hid (HI.out.below hb3)
        have HB3 := Lib.hid (HB.out.trans (below_le hb3 HB.out.size))
        have hbs3 := HB3.out.size
        clear hb3 HQ2 HI
        generalize hF : ((List.range 0).filter (isAt [] wd)) = F at HI3 hfl ⊢
        have HF := Lib.hid hF
        clear hF
        cases D
        · have HNX : Hid ((List.range (0 + 1)).filter (isAt [] wd) = F) := Lib.hid (by rw [filter_no HAT.out]; exact HF.out)
          go_wp2
          go_roundw
          case rel => exact ⟨1, by go_num, by omega, by rw [HNX.out]; exact HI3, HB3⟩
          case measure => simp [intOf] <;> omega
        · have HNX : Hid ((List.range (0 + 1)).filter (isAt [] wd) = F ++ [0]) := Lib.hid (by rw [filter_yes HAT.out, HF.out])
          go_wp2_with (at_builtin; go_loud (refine wpList_append_own _ rfl _ _ 27 rfl w.heap.size 3 i3 (.int .i64 0) 1 8 Try.underlying27 HP.out.1 HP.out.2.1 HP.out.2.2.1 HP.out.2.2.2 rfl (by decide) _ _ _ rfl (HI3.out.alloc _) ⟨w3.heap.size, 0, none⟩ 1 1 [.int .i64 ((0 : Nat) : Int)] rfl rfl (cell_one_new _ _ _) (by simp [Value.oneCell']) (by unfold maxLen; omega) (by omega) (by simp; omega) ?_))
          intro v' w4 ho hg4 _
          have HI4 := Lib.hid (HI3.out.push ho)
          have HB4 : Hid (Below w.heap.size w w4) := Lib.hid ((HB3.out.alloc HB3.out.size _).grown hg4 (by simp; omega) (fun k e => (HI3.out.lt k e).1))
          clear ho hg4
          go_wp2
          go_roundw
          case rel => exact ⟨1, by go_num, by omega, by rw [HNX.out]; exact HI4, HB4⟩
          case measure => simp [intOf] <;> omega
      · have i2 : ¬ (j : Int) + (m : Int) ≤ 0 := by omega
        have HE : Hid (IntO w.heap.size wr (.slice xv ((List.range j).filter (isAt [] wd)).length cv) (besS [] wd)) := Lib.hid (by
          have h := HI.out
          rw [HBES.out, ← HN.out, ← HM.out, show 0 + 1 - m = j by omega]
          exact h)
        generalize ((List.range j).filter (isAt [] wd)).length = F at HE hfl ⊢
        clear HI
        go_wp2
        go_ret
        exact ⟨_, rfl, HE.out, HB.out⟩
  · have HGET := Lib.hid (And.intro hg hget)
    obtain ⟨n, hn⟩ : ∃ n, n = o.length := ⟨_, rfl⟩
    have HN := Lib.hid hn
    have HC := Lib.hid (And.intro hc hn6)
    have hcn : n ≤ c := by omega
    rw [← hn] at hn6 ⊢
    clear hget hg hn hm hc
    subst hvw
    obtain ⟨i3, hi, hi0, hi1, hi2⟩ := info_parts3
    have HP := Lib.hid (And.intro hi (And.intro hi0 (And.intro hi1 hi2)))
    have HBES : Hid (besS o wd = (List.range (o.length + 1 - wd.length)).filter (isAt o wd)) := Lib.hid rfl
    clear hi hi0 hi1 hi2
    go_enter Try.func23, Try.ntmps23
    go_wp2
    go_loopw [5, 6] (fun v i wr => ∃ j : Nat, i = .int .i64 (j : Int) ∧ j ≤ n + 1 - m ∧ Hid (IntO w.heap.size wr v ((List.range j).filter (isAt o wd))) ∧ Hid (Below w.heap.size w wr)) (fun _ i _ => n + 1 - m - (intOf i).toNat)
    case atStart => exact ⟨0, rfl, Nat.zero_le _, Lib.hid (IntO.nil _ _), Lib.hid (Below.refl _ _)⟩
    case round =>
      obtain ⟨j, rfl, hj, HI, HB⟩ := hrel
      obtain ⟨xv, cv, hxv⟩ := HI.out.is
      subst hxv
      have hfl := filter_le (isAt o wd) j
      have hbs := HB.out.size
      by_cases hlt : j + m ≤ n
      · have i2 : (j : Int) + (m : Int) ≤ (n : Int) := by omega
        by_cases hcj : j = c
        · subst hcj
          obtain rfl : m = 0 := by omega
          have HQ := Lib.hid (wequal _ _ _ _ wr (show TxV wr (.slice (some ⟨g, off, none⟩) 0 0) ((o.drop j).take wd.length) from ⟨by rw [List.length_take, ← HM.out]; simp, .inr ⟨g, off, 0, by rw [List.length_take, ← HM.out]; simp, by rw [List.length_take, ← HM.out]; simp, by have := HGET.out.1; omega, fun i hi => by rw [List.length_take, ← HM.out] at hi; simp at hi⟩⟩) (HW.out.below HB.out))
          have HAT := Lib.hid (at_yes (o := o) (w := wd) (i := j) (by have := HN.out; have := HM.out; omega))
          obtain ⟨D, hD⟩ : ∃ D, D = decide ((o.drop j).take wd.length = wd) := ⟨_, rfl⟩
          rw [← hD] at HAT
          have HQ2 : Hid (Calls Try.prog 43 #[.slice (some ⟨g, off, none⟩) 0 0, .slice xw 0 cw] wr fun e w' => e = .returned (.bool D) ∧ Below wr.heap.size wr w') := Lib.hid (by rw [hD, ← HM.out]; have h := HQ.out; rw [← HM.out] at h; exact h)
          clear HQ hD
          go_wp2_with (first | (go_at_call 43; fail))
          go_at_call 43
          refine HQ2.out.mono ?_
          rintro e w3 ⟨rfl, hb3⟩
          have HI3 := Lib.hid (HI.out.below hb3)
          have HB3 := Lib.hid (HB.out.trans (below_le hb3 HB.out.size))
          have hbs3 := HB3.out.size
          clear hb3 HQ2 HI
          generalize hF : ((List.range j).filter (isAt o wd)) = F at HI3 hfl ⊢
          have HF := Lib.hid hF
          clear hF
          cases D
          · have HNX : Hid ((List.range (j + 1)).filter (isAt o wd) = F) := Lib.hid (by rw [filter_no HAT.out]; exact HF.out)
            go_wp2
            go_roundw
            case rel => exact ⟨j + 1, by go_num, by omega, by rw [HNX.out]; exact HI3, HB3⟩
            case measure => simp [intOf] <;> omega
          · have HNX : Hid ((List.range (j + 1)).filter (isAt o wd) = F ++ [j]) := Lib.hid (by rw [filter_yes HAT.out, HF.out])
            go_wp2_with (at_builtin; go_loud (refine wpList_append_own _ rfl _ _ 27 rfl w.heap.size 3 i3 (.int .i64 0) 1 8 Try.underlying27 HP.out.1 HP.out.2.1 HP.out.2.2.1 HP.out.2.2.2 rfl (by decide) _ _ _ rfl (HI3.out.alloc _) ⟨w3.heap.size, 0, none⟩ 1 1 [.int .i64 (j : Int)] rfl rfl (cell_one_new _ _ _) (by simp [Value.oneCell']) (by unfold maxLen; omega) (by omega) (by simp; omega) ?_))
            intro v' w4 ho hg4 _
            have HI4 := Lib.hid (HI3.out.push ho)
            have HB4 : Hid (Below w.heap.size w w4) := Lib.hid ((HB3.out.alloc HB3.out.size _).grown hg4 (by simp; omega) (fun k e => (HI3.out.lt k e).1))
            clear ho hg4
            go_wp2
            go_roundw
            case rel => exact ⟨j + 1, by go_num, by omega, by rw [HNX.out]; exact HI4, HB4⟩
            case measure => simp [intOf] <;> omega
        · have hcj2 : ¬ c = j := fun e => hcj e.symm
          have HQ := Lib.hid (wequal _ _ _ _ wr (TxV.sub2 (off := off) (c := c) (i := j) (m := wd.length) (L := o) (by have := HGET.out.1; omega) (fun i hi => (HB.out.cell (p := ⟨g, off + i, none⟩) HGET.out.1).trans (HGET.out.2 i hi)) (by have := HN.out; have := HM.out; omega) HC.out.1 HC.out.2) (HW.out.below HB.out))
          have HAT := Lib.hid (at_yes (o := o) (w := wd) (i := j) (by have := HN.out; have := HM.out; omega))
          obtain ⟨D, hD⟩ : ∃ D, D = decide ((o.drop j).take wd.length = wd) := ⟨_, rfl⟩
          rw [← hD] at HAT
          have HQ2 : Hid (Calls Try.prog 43 #[.slice (some ⟨g, off + j, none⟩) m (c - j), .slice xw m cw] wr fun e w' => e = .returned (.bool D) ∧ Below wr.heap.size wr w') := Lib.hid (by rw [hD, ← HM.out]; have h := HQ.out; rw [← HM.out] at h; exact h)
          clear HQ hD
          go_wp2_with (first | (go_at_call 43; fail))
          go_at_call 43
          refine HQ2.out.mono ?_
          rintro e w3 ⟨rfl, hb3⟩
          have HI3 := Lib.hid (HI.out.below hb3)
          have HB3 := Lib.hid (HB.out.trans (below_le hb3 HB.out.size))
          have hbs3 := HB3.out.size
          clear hb3 HQ2 HI
          generalize hF : ((List.range j).filter (isAt o wd)) = F at HI3 hfl ⊢
          have HF := Lib.hid hF
          clear hF
          cases D
          · have HNX : Hid ((List.range (j + 1)).filter (isAt o wd) = F) := Lib.hid (by rw [filter_no HAT.out]; exact HF.out)
            go_wp2
            go_roundw
            case rel => exact ⟨j + 1, by go_num, by omega, by rw [HNX.out]; exact HI3, HB3⟩
            case measure => simp [intOf] <;> omega
          · have HNX : Hid ((List.range (j + 1)).filter (isAt o wd) = F ++ [j]) := Lib.hid (by rw [filter_yes HAT.out, HF.out])
            go_wp2_with (at_builtin; go_loud (refine wpList_append_own _ rfl _ _ 27 rfl w.heap.size 3 i3 (.int .i64 0) 1 8 Try.underlying27 HP.out.1 HP.out.2.1 HP.out.2.2.1 HP.out.2.2.2 rfl (by decide) _ _ _ rfl (HI3.out.alloc _) ⟨w3.heap.size, 0, none⟩ 1 1 [.int .i64 (j : Int)] rfl rfl (cell_one_new _ _ _) (by simp [Value.oneCell']) (by unfold maxLen; omega) (by omega) (by simp; omega) ?_))
            intro v' w4 ho hg4 _
            have HI4 := Lib.hid (HI3.out.push ho)
            have HB4 : Hid (Below w.heap.size w w4) := Lib.hid ((HB3.out.alloc HB3.out.size _).grown hg4 (by simp; omega) (fun k e => (HI3.out.lt k e).1))
            clear ho hg4
            go_wp2
            go_roundw
            case rel => exact ⟨j + 1, by go_num, by omega, by rw [HNX.out]; exact HI4, HB4⟩
            case measure => simp [intOf] <;> omega
      · have i2 : ¬ (j : Int) + (m : Int) ≤ (n : Int) := by omega
        have HE : Hid (IntO w.heap.size wr (.slice xv ((List.range j).filter (isAt o wd)).length cv) (besS o wd)) := Lib.hid (by
          have h := HI.out
          rw [HBES.out, ← HN.out, ← HM.out, show n + 1 - m = j by omega]
          exact h)
        generalize ((List.range j).filter (isAt o wd)).length = F at HE hfl ⊢
        clear HI
        go_wp2
        go_ret
        exact ⟨_, rfl, HE.out, HB.out⟩
end Go.Proofs.Ytdehjofmangmbaa
