/- Walks: number, sign, is. -/
import Derived.Test.YtfalcmbjjlgoaaaGreatDoorQ2
import Derived.WalkMore
namespace Go.Proofs.YtfalcmbjjlgoaaaGreatDoor
open Go.RowKit Go.Shelf
/-- The reader gives up. -/
def Pan (e : Ending) : Prop := e = .panicked [{ v := .iface 69 (.agg #[]), recovered := false }]
theorem getD_zero {l : Bs} {i : Nat} (h : l.getD i 0 ≠ 0) : i < l.length := by
  by_cases q : i < l.length
  · exact q
  · rw [List.getD_eq_getElem?_getD, List.getElem?_eq_none (by omega)] at h
    exact absurd rfl h
theorem numLen_le (l : Bs) : (numLen l).1 ≤ l.length ∧ (numLen l).2.1 ≤ l.length + l.length := by
  have h1 := takeWhile_le isDig l
  have h2 := takeWhile_le isDig (l.drop (cntDig l + 1))
  rw [List.length_drop] at h2
  unfold numLen
  simp only
  split
  · rename_i hc
    have h3 := getD_zero (l := l) (i := cntDig l) (by rw [hc.1]; decide)
    unfold cntDig at *
    simp only
    exact ⟨by omega, by omega⟩
  · unfold cntDig at *
    exact ⟨by simpa using h1, by simp only; omega⟩
set_option maxRecDepth 100000 in
set_option maxHeartbeats 4000000 in
theorem wnumber (r : Nat) (s : Bs) (a k : Nat) (g : Bs) (hs : s.length ≤ 1000000) (ha : a < s.length) (w : World) (h : Rd w r s a k g) :
    Calls Tryz.prog 52 #[.pointer (some ⟨r, 0, none⟩)] w fun e w' => But [r] w w' ∧ (((numLen (s.drop a)).2.1 ≤ 15 ∧ (numLen (s.drop a)).2.2 ≤ 6 ∧ e = .returned (.tuple #[]) ∧ Rd w' r s (a + (numLen (s.drop a)).1) 1 g) ∨ (¬ ((numLen (s.drop a)).2.1 ≤ 15 ∧ (numLen (s.drop a)).2.2 ≤ 6) ∧ Pan e)) := by
  have HS := Lib.hid (show (tx s).size = s.length by simp [tx, ByteArray.size])
  have HSL := Lib.hid hs
  have HD1 := Lib.hid (fun W h => wdigits r s a 1 g hs (by omega) W h)
  have HD2 := Lib.hid (fun b hb W h => wdigits r s b 1 g hs hb W h)
  have HCL := Lib.hid (takeWhile_le isDig (s.drop a))
  rw [List.length_drop] at HCL
  obtain ⟨p, hp⟩ : ∃ p, p = a + cntDig (s.drop a) := ⟨_, rfl⟩
  have hpl : p ≤ s.length := by have := HCL.out; unfold cntDig at hp; omega
  have HP := Lib.hid hp
  have HN : Hid (numLen (s.drop a) = if s.getD p 0 = 46 ∧ isDig (s.getD (p + 1) 0) = true then (p + 1 - a + cntDig (s.drop (p + 1)), p - a + cntDig (s.drop (p + 1)), cntDig (s.drop (p + 1))) else (p - a, p - a, 0)) := Lib.hid (by
    unfold numLen
    simp only
    rw [getD_drop, getD_drop, List.drop_drop, show a + cntDig (s.drop a) = p from hp.symm, show a + (cntDig (s.drop a) + 1) = p + 1 by omega, show cntDig (s.drop a) = p - a by omega, show p - a + 1 = p + 1 - a by omega])
  have HR := Lib.hid h
  obtain ⟨c0, c1, c2, c3, fr, hlt⟩ := h.cells
  have f2 := fr 2
  clear fr h hp
  have HPA := Lib.hid (show a ≤ p by have := HP.out; omega)
  go_enter Tryz.func52, Tryz.ntmps52
  go_wp2_with (first | (go_at_call 76; fail))
  go_at_call 76
  refine (HD1.out _ (HR.out.kind 1)).mono ?_
  rintro e w1 ⟨rfl, hr1, hb1⟩
  rw [← HP.out] at hr1
  rw [show cntDig (s.drop a) = p - a by have := HP.out; omega]
  have HR1 := Lib.hid hr1
  have HB1 := Lib.hid (((But.refl [r] w).cell 2 (.int .i64 1)).trans hb1)
  obtain ⟨c0', c1', c2', c3', fr', hlt'⟩ := hr1.cells
  have f1 := fr' 1
  clear c0 c1 c2 c3 f2 hlt fr' hr1 hb1 c2' c3' HD1
  by_cases q1 : p + 1 < (tx s).size
  · have x1 : p < (tx s).size := by omega
    have l1 : p + 1 < s.length := by have := HS.out; omega
    have HX := Lib.hid (tx_at s p (by omega))
    have HX1 := Lib.hid (tx_at s (p + 1) l1)
    have i1 : IntKind.i64.wrap ((p : Int) + 1) = (p : Int) + 1 := IntWalk.i64_in _ (by omega)
    have i2 : 0 ≤ (p : Int) + 1 := by omega
    have i3 : ((p : Int) + 1).toNat = p + 1 := by omega
    have x2 : (p : Int) + 1 < ((tx s).size : Int) := by omega
    by_cases q2 : s.getD p 0 = 46
    · have z1 : (((tx s)[p]'x1).toNat : Int) = 46 := by rw [HX.out, q2]; rfl
      cases q3 : isDig (s.getD (p + 1) 0)
      · have HD : Hid (∀ W, Calls Tryz.prog 51 #[.int .u8 (((tx s)[p + 1]'q1).toNat : Int)] W fun e w' => e = .returned (.bool false) ∧ W = w') := Lib.hid (fun W => by rw [HX1.out, ← q3]; exact wisDigit _ W)
        have HV : Hid (numLen (s.drop a) = (p - a, p - a, 0)) := Lib.hid (by rw [HN.out, if_neg (fun h => by rw [q3] at h; cases h.2)])
        clear q2 q3 HN
        go_wp2_with fail
        go_quiet ((go_at_call 51; exact quiet_eq (HD.out _)))
        by_cases t1 : p - a ≤ 15
        · go_wp2
          first | go_end0 | refine bodyPost_ret (results_none rfl _ _ _) rfl ?_
          rw [HV.out]
          exact ⟨HB1.out.drewN _, .inl ⟨t1, Nat.zero_le 6, rfl, by have := HPA.out; rw [show a + (p - a) = p by omega]; exact HR1.out.drewN _⟩⟩
        · go_wp2
          rw [HV.out]
          exact ⟨rfl, HB1.out.drewN _, .inr ⟨fun h => absurd h t1, rfl⟩⟩
      · have HD : Hid (∀ W, Calls Tryz.prog 51 #[.int .u8 (((tx s)[p + 1]'q1).toNat : Int)] W fun e w' => e = .returned (.bool true) ∧ W = w') := Lib.hid (fun W => by rw [HX1.out, ← q3]; exact wisDigit _ W)
        have HCL2 := Lib.hid (takeWhile_le isDig (s.drop (p + 1)))
        rw [List.length_drop] at HCL2
        obtain ⟨b, hb⟩ : ∃ b, b = cntDig (s.drop (p + 1)) := ⟨_, rfl⟩
        have HV : Hid (numLen (s.drop a) = (p + 1 - a + b, p - a + b, b)) := Lib.hid (by rw [HN.out, if_pos ⟨q2, q3⟩, hb])
        have HBV := Lib.hid hb
        have hbl : b ≤ 1000000 := by have := HCL2.out; have := HSL.out; unfold cntDig at hb; omega
        clear q2 q3 HN hb
        go_wp2_with fail
        go_quiet ((go_at_call 51; exact quiet_eq (HD.out _)))
        go_wp2_with (first | (go_at_call 76; fail))
        go_at_call 76
        refine (HD2.out (p + 1) (by have := HS.out; omega) _ ((HR1.out.drewN _).at (p + 1))).mono ?_
        rintro e w2 ⟨rfl, hr2, hb2⟩
        rw [← HBV.out] at hr2 ⊢
        have HR2 := Lib.hid hr2
        have HB2 := Lib.hid (((HB1.out.drewN nq).cell 1 (.int .i64 ((p + 1 : Nat) : Int))).trans hb2)
        clear hr2 hb2 c0' c1' f1 z1
        by_cases t1 : p - a + b ≤ 15
        · have t2 : ¬ 15 < ((p - a : Nat) : Int) + (b : Int) := by omega
          by_cases t3 : b ≤ 6
          · go_wp2
            first | go_end0 | refine bodyPost_ret (results_none rfl _ _ _) rfl ?_
            rw [HV.out]
            exact ⟨HB2.out, .inl ⟨t1, t3, rfl, by have := HPA.out; rw [show a + (p + 1 - a + b) = p + 1 + b by omega]; exact HR2.out⟩⟩
          · go_wp2
            rw [HV.out]
            exact ⟨rfl, HB2.out, .inr ⟨fun h => t3 h.2, rfl⟩⟩
        · have t2 : 15 < ((p - a : Nat) : Int) + (b : Int) := by omega
          go_wp2
          rw [HV.out]
          exact ⟨rfl, HB2.out, .inr ⟨fun h => t1 (by first | exact h.1 | exact h), rfl⟩⟩
    · have z1 : ¬ (((tx s)[p]'x1).toNat : Int) = 46 := by
        rw [HX.out]
        intro h
        have h2 : (s.getD p 0).toNat = (46 : UInt8).toNat := by rw [show (46 : UInt8).toNat = 46 from rfl]; omega
        exact q2 (UInt8.toNat_inj.1 h2)
      have HV : Hid (numLen (s.drop a) = (p - a, p - a, 0)) := Lib.hid (by rw [HN.out, if_neg (fun h => q2 h.1)])
      clear q2 HN
      go_wp2_with fail
      go_quiet (fail)
      by_cases t1 : p - a ≤ 15
      · go_wp2
        first | go_end0 | refine bodyPost_ret (results_none rfl _ _ _) rfl ?_
        rw [HV.out]
        exact ⟨HB1.out.drewN _, .inl ⟨t1, Nat.zero_le 6, rfl, by have := HPA.out; rw [show a + (p - a) = p by omega]; exact HR1.out.drewN _⟩⟩
      · go_wp2
        rw [HV.out]
        exact ⟨rfl, HB1.out.drewN _, .inr ⟨fun h => absurd h t1, rfl⟩⟩
  · have x2 : decide ((p : Int) + 1 < ((tx s).size : Int)) = false := decide_eq_false (by omega)
    have HV : Hid (numLen (s.drop a) = (p - a, p - a, 0)) := Lib.hid (by
      rw [HN.out, if_neg]
      intro h
      have := getD_zero (l := s) (i := p + 1) (fun e => by rw [e] at h; exact absurd h.2 (by decide))
      have := HS.out
      omega)
    have i1 : IntKind.i64.wrap ((p : Int) + 1) = (p : Int) + 1 := IntWalk.i64_in _ (by have := HSL.out; omega)
    clear HN
    go_wp2_with fail
    go_quiet (fail)
    by_cases t1 : p - a ≤ 15
    · go_wp2
      first | go_end0 | refine bodyPost_ret (results_none rfl _ _ _) rfl ?_
      rw [HV.out]
      exact ⟨HB1.out.drewN _, .inl ⟨t1, Nat.zero_le 6, rfl, by have := HPA.out; rw [show a + (p - a) = p by omega]; exact HR1.out.drewN _⟩⟩
    · go_wp2
      rw [HV.out]
      exact ⟨rfl, HB1.out.drewN _, .inr ⟨fun h => absurd h t1, rfl⟩⟩
end Go.Proofs.YtfalcmbjjlgoaaaGreatDoor
