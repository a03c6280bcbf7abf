/- Own texts, merged: Q3, Q4, D2. -/
import Derived.WalkMore
import Derived.Test.YtdomglkcfecnnaaGreatMP18
/- Walks: number, sign, is. -/
namespace Go.Proofs.YtdomglkcfecnnaaGreat
open Go.RowKit Go.Shelf
/-- The reader gives up. -/
def Pan (e : Ending) : Prop := e = .panicked [{ v := .iface 159 (.agg #[]), recovered := false }]
theorem getD_zero {l : Bs} {i : Nat} (h : l.getD i 0 ≠ 0) : i < l.length := by
  by_cases q : i < l.length
  · exact q
  · rw [List.getD_eq_getElem?_getD, List.getElem?_eq_none (by omega)] at h
    exact absurd rfl h
theorem numLen_le (l : Bs) : (numLen l).1 ≤ l.length ∧ (numLen l).2.1 ≤ l.length + l.length := by
  have h1 := takeWhile_le isDig l
  have h2 := takeWhile_le isDig (l.drop (cntDig l + 1))
  rw [List.length_drop] at h2
  unfold numLen
  simp only
  split
  · rename_i hc
    have h3 := getD_zero (l := l) (i := cntDig l) (by rw [hc.1]; decide)
    unfold cntDig at *
    simp only
    exact ⟨by omega, by omega⟩
  · unfold cntDig at *
    exact ⟨by simpa using h1, by simp only; omega⟩
set_option maxRecDepth 100000 in
set_option maxHeartbeats 4000000 in
theorem wnumber (r : Nat) (s : Bs) (a k : Nat) (g : Bs) (hs : s.length ≤ 1000000) (ha : a < s.length) (w : World) (h : Rd w r s a k g) :
    Calls Tryz.prog 100 #[.pointer (some ⟨r, 0, none⟩)] w fun e w' => But [r] w w' ∧ (((numLen (s.drop a)).2.1 ≤ 15 ∧ (numLen (s.drop a)).2.2 ≤ 6 ∧ e = .returned (.tuple #[]) ∧ Rd w' r s (a + (numLen (s.drop a)).1) 1 g) ∨ (¬ ((numLen (s.drop a)).2.1 ≤ 15 ∧ (numLen (s.drop a)).2.2 ≤ 6) ∧ Pan e)) := by
  have HS := Lib.hid (show (tx s).size = s.length by simp [tx, ByteArray.size])
  have HSL := Lib.hid hs
  have HD1 := Lib.hid (fun W h => wdigits r s a 1 g hs (by omega) W h)
  have HD2 := Lib.hid (fun b hb W h => wdigits r s b 1 g hs hb W h)
  have HCL := Lib.hid (takeWhile_le isDig (s.drop a))
  rw [List.length_drop] at HCL
  obtain ⟨p, hp⟩ : ∃ p, p = a + cntDig (s.drop a) := ⟨_, rfl⟩
  have hpl : p ≤ s.length := by have := HCL.out; unfold cntDig at hp; omega
  have HP := Lib.hid hp
  have HN : Hid (numLen (s.drop a) = if s.getD p 0 = 46 ∧ isDig (s.getD (p + 1) 0) = true then (p + 1 - a + cntDig (s.drop (p + 1)), p - a + cntDig (s.drop (p + 1)), cntDig (s.drop (p + 1))) else (p - a, p - a, 0)) := Lib.hid (by
    unfold numLen
    simp only
    rw [getD_drop, getD_drop, List.drop_drop, show a + cntDig (s.drop a) = p from hp.symm, show a + (cntDig (s.drop a) + 1) = p + 1 by omega, show cntDig (s.drop a) = p - a by omega, show p - a + 1 = p + 1 - a by omega])
  have HR := Lib.hid h
  obtain ⟨c0, c1, c2, c3, fr, hlt⟩ := h.cells
  have f2 := fr 2
  clear fr h hp
  have HPA := Lib.hid (show a ≤ p by have := HP.out; omega)
  go_enter Tryz.func100, Tryz.ntmps100
  go_wp2_with (first | (go_at_call 129; fail))
  go_at_call 129
  refine (HD1.out _ (HR.out.kind 1)).mono ?_
  rintro e w1 ⟨rfl, hr1, hb1⟩
  rw [← HP.out] at hr1
  rw [show cntDig (s.drop a) = p - a by have := HP.out; omega]
  have HR1 := Lib.hid hr1
  have HB1 := Lib.hid (((But.refl [r] w).cell 2 (.int .i64 1)).trans hb1)
  obtain ⟨c0', c1', c2', c3', fr', hlt'⟩ := hr1.cells
  have f1 := fr' 1
  clear c0 c1 c2 c3 f2 hlt fr' hr1 hb1 c2' c3' HD1
  by_cases q1 : p + 1 < (tx s).size
  · have x1 : p < (tx s).size := by omega
    have l1 : p + 1 < s.length := by have := HS.out; omega
    have HX := Lib.hid (tx_at s p (by omega))
    have HX1 := Lib.hid (tx_at s (p + 1) l1)
    have i1 : IntKind.i64.wrap ((p : Int) + 1) = (p : Int) + 1 := IntWalk.i64_in _ (by omega)
    have i2 : 0 ≤ (p : Int) + 1 := by omega
    have i3 : ((p : Int) + 1).toNat = p + 1 := by omega
    have x2 : (p : Int) + 1 < ((tx s).size : Int) := by omega
    by_cases q2 : s.getD p 0 = 46
    · have z1 : (((tx s)[p]'x1).toNat : Int) = 46 := by rw [HX.out, q2]; rfl
      cases q3 : isDig (s.getD (p + 1) 0)
      · have HD : Hid (∀ W, Calls Tryz.prog 99 #[.int .u8 (((tx s)[p + 1]'q1).toNat : Int)] W fun e w' => e = .returned (.bool false) ∧ W = w') := Lib.hid (fun W => by rw [HX1.out, ← q3]; exact wisDigit _ W)
        have HV : Hid (numLen (s.drop a) = (p - a, p - a, 0)) := Lib.hid (by rw [HN.out, if_neg (fun h => by rw [q3] at h; cases h.2)])
        clear q2 q3 HN
        go_wp2_with fail
        go_quiet ((go_at_call 99; exact quiet_eq (HD.out _)))
        by_cases t1 : p - a ≤ 15
        · go_wp2
          first | go_end0 | refine bodyPost_ret (results_none rfl _ _ _) rfl ?_
          rw [HV.out]
          exact ⟨HB1.out.drewN _, .inl ⟨t1, Nat.zero_le 6, rfl, by have := HPA.out; rw [show a + (p - a) = p by omega]; exact HR1.out.drewN _⟩⟩
        · go_wp2
          rw [HV.out]
          exact ⟨rfl, HB1.out.drewN _, .inr ⟨fun h => absurd h t1, rfl⟩⟩
      · have HD : Hid (∀ W, Calls Tryz.prog 99 #[.int .u8 (((tx s)[p + 1]'q1).toNat : Int)] W fun e w' => e = .returned (.bool true) ∧ W = w') := Lib.hid (fun W => by rw [HX1.out, ← q3]; exact wisDigit _ W)
        have HCL2 := Lib.hid (takeWhile_le isDig (s.drop (p + 1)))
        rw [List.length_drop] at HCL2
        obtain ⟨b, hb⟩ : ∃ b, b = cntDig (s.drop (p + 1)) := ⟨_, rfl⟩
        have HV : Hid (numLen (s.drop a) = (p + 1 - a + b, p - a + b, b)) := Lib.hid (by rw [HN.out, if_pos ⟨q2, q3⟩, hb])
        have HBV := Lib.hid hb
        have hbl : b ≤ 1000000 := by have := HCL2.out; have := HSL.out; unfold cntDig at hb; omega
        clear q2 q3 HN hb
        go_wp2_with fail
        go_quiet ((go_at_call 99; exact quiet_eq (HD.out _)))
        go_wp2_with (first | (go_at_call 129; fail))
        go_at_call 129
        refine (HD2.out (p + 1) (by have := HS.out; omega) _ ((HR1.out.drewN _).at (p + 1))).mono ?_
        rintro e w2 ⟨rfl, hr2, hb2⟩
        rw [← HBV.out] at hr2 ⊢
        have HR2 := Lib.hid hr2
        have HB2 := Lib.hid (((HB1.out.drewN nq).cell 1 (.int .i64 ((p + 1 : Nat) : Int))).trans hb2)
        clear hr2 hb2 c0' c1' f1 z1
        by_cases t1 : p - a + b ≤ 15
        · have t2 : ¬ 15 < ((p - a : Nat) : Int) + (b : Int) := by omega
          by_cases t3 : b ≤ 6
          · go_wp2
            first | go_end0 | refine bodyPost_ret (results_none rfl _ _ _) rfl ?_
            rw [HV.out]
            exact ⟨HB2.out, .inl ⟨t1, t3, rfl, by have := HPA.out; rw [show a + (p + 1 - a + b) = p + 1 + b by omega]; exact HR2.out⟩⟩
          · go_wp2
            rw [HV.out]
            exact ⟨rfl, HB2.out, .inr ⟨fun h => t3 h.2, rfl⟩⟩
        · have t2 : 15 < ((p - a : Nat) : Int) + (b : Int) := by omega
          go_wp2
          rw [HV.out]
          exact ⟨rfl, HB2.out, .inr ⟨fun h => t1 (by first | exact h.1 | exact h), rfl⟩⟩
    · have z1 : ¬ (((tx s)[p]'x1).toNat : Int) = 46 := by
        rw [HX.out]
        intro h
        have h2 : (s.getD p 0).toNat = (46 : UInt8).toNat := by rw [show (46 : UInt8).toNat = 46 from rfl]; omega
        exact q2 (UInt8.toNat_inj.1 h2)
      have HV : Hid (numLen (s.drop a) = (p - a, p - a, 0)) := Lib.hid (by rw [HN.out, if_neg (fun h => q2 h.1)])
      clear q2 HN
      go_wp2_with fail
      go_quiet (fail)
      by_cases t1 : p - a ≤ 15
      · go_wp2
        first | go_end0 | refine bodyPost_ret (results_none rfl _ _ _) rfl ?_
        rw [HV.out]
        exact ⟨HB1.out.drewN _, .inl ⟨t1, Nat.zero_le 6, rfl, by have := HPA.out; rw [show a + (p - a) = p by omega]; exact HR1.out.drewN _⟩⟩
      · go_wp2
        rw [HV.out]
        exact ⟨rfl, HB1.out.drewN _, .inr ⟨fun h => absurd h t1, rfl⟩⟩
  · have x2 : decide ((p : Int) + 1 < ((tx s).size : Int)) = false := decide_eq_false (by omega)
    have HV : Hid (numLen (s.drop a) = (p - a, p - a, 0)) := Lib.hid (by
      rw [HN.out, if_neg]
      intro h
      have := getD_zero (l := s) (i := p + 1) (fun e => by rw [e] at h; exact absurd h.2 (by decide))
      have := HS.out
      omega)
    have i1 : IntKind.i64.wrap ((p : Int) + 1) = (p : Int) + 1 := IntWalk.i64_in _ (by have := HSL.out; omega)
    clear HN
    go_wp2_with fail
    go_quiet (fail)
    by_cases t1 : p - a ≤ 15
    · go_wp2
      first | go_end0 | refine bodyPost_ret (results_none rfl _ _ _) rfl ?_
      rw [HV.out]
      exact ⟨HB1.out.drewN _, .inl ⟨t1, Nat.zero_le 6, rfl, by have := HPA.out; rw [show a + (p - a) = p by omega]; exact HR1.out.drewN _⟩⟩
    · go_wp2
      rw [HV.out]
      exact ⟨rfl, HB1.out.drewN _, .inr ⟨fun h => absurd h t1, rfl⟩⟩
end Go.Proofs.YtdomglkcfecnnaaGreat
/- Walks: is, sign. -/
namespace Go.Proofs.YtdomglkcfecnnaaGreat
open Go.RowKit Go.Shelf
theorem tx_inj {a b : Bs} (h : tx a = tx b) : a = b := by
  have : (tx a).data.toList = (tx b).data.toList := by rw [h]
  simpa [tx] using this
theorem tx_list (a : Bs) : (tx a).data.toList = a := by simp [tx]
theorem tx_size' (a : Bs) : (tx a).size = a.length := by simp [tx, ByteArray.size]
theorem tx_beq (a b : Bs) : ((tx a).toList == (tx b).toList) = decide (a = b) := by
  rw [beq_bytes, Bool.eq_iff_iff, decide_eq_true_iff, decide_eq_true_iff]
  exact ⟨tx_inj, fun h => by rw [h]⟩
theorem tx_data (b : ByteArray) : tx b.data.toList = b := by
  obtain ⟨⟨x⟩⟩ := b
  rfl
theorem tx_extract (s : Bs) (a b : Nat) : (tx s).extract a b = tx ((s.drop a).take (b - a)) := by
  have h := Lib.extract_data (tx s) a b
  rw [tx_list] at h
  exact (tx_data _).symm.trans (by rw [h])
theorem wrdIs (r : Nat) (s : Bs) (a k : Nat) (g : Bs) (kk : Nat) (str : Bs) (w : World) (h : Rd w r s a k g) :
    Calls Tryz.prog 105 #[.pointer (some ⟨r, 0, none⟩), .int .i64 kk, .string (tx str)] w fun e w' => e = .returned (.bool (k == kk && decide (g = str))) ∧ w = w' := by
  obtain ⟨c0, c1, c2, c3, fr, hlt⟩ := h.cells
  have HB := Lib.hid (tx_beq g str)
  clear fr h c0 c1
  by_cases q : k = kk
  · subst q
    go_enter Tryz.func105, Tryz.ntmps105
    go_wp2
    go_ret
    exact ⟨ret_bool (by simp [HB.out]), rfl⟩
  · have q2 : ¬ (k : Int) = (kk : Int) := by omega
    have q3 : (k == kk) = false := by simpa using q
    go_enter Tryz.func105, Tryz.ntmps105
    go_wp2
    go_ret
    exact ⟨by rw [q3]; rfl, rfl⟩
theorem tx_toList (a : Bs) : (tx a).toList = a := by rw [ByteArray.toList_eq, tx_list]
theorem drop_two (s : Bs) (a : Nat) (h : a + 2 ≤ s.length) : (s.drop a).take 2 = [s.getD a 0, s.getD (a + 1) 0] := by
  rw [List.drop_eq_getElem_cons (by omega), List.drop_eq_getElem_cons (by omega : a + 1 < s.length), List.getD_eq_getElem?_getD, List.getD_eq_getElem?_getD, List.getElem?_eq_getElem (show a < s.length by omega), List.getElem?_eq_getElem (show a + 1 < s.length by omega)]
  rfl
theorem two_no {c d : UInt8} (h : isTwo c d = false) : ([c, d] == ([33, 61] : Bs)) = false ∧ ([c, d] == ([60, 61] : Bs)) = false ∧ ([c, d] == ([62, 61] : Bs)) = false := by
  unfold isTwo at h
  cases hd : (d == 61) <;> cases h1 : (c == 33) <;> cases h2 : (c == 60) <;> cases h3 : (c == 62) <;> simp [hd, h1, h2, h3] at h ⊢ <;> simp_all
theorem toNat_of {c v : UInt8} (h : c = v) : (c.toNat : Int) = (v.toNat : Int) := by rw [h]
theorem ne_nat {c v : UInt8} (h : c ≠ v) : ¬ (c.toNat : Int) = (v.toNat : Int) := fun e => h (UInt8.toNat_inj.1 (by omega))
/-- Behind the two-byte signs: one byte, or none. -/
def SignEnd (r : Nat) (s : Bs) (a : Nat) (g : Bs) (w : World) (n : Nat) (e : Ending) (w' : World) : Prop := But [r] w w' ∧ ((n ≠ 0 ∧ e = .returned (.tuple #[]) ∧ Rd w' r s (a + n) 4 g) ∨ (n = 0 ∧ Pan e))
set_option maxRecDepth 100000 in
set_option maxHeartbeats 4000000 in
theorem wsign2 (r : Nat) (s : Bs) (a k : Nat) (g : Bs) (hs : s.length ≤ 1000000) (ha : a + 2 ≤ s.length) (w : World) (h : Rd w r s a k g) (h2 : isTwo (s.getD a 0) (s.getD (a + 1) 0) = true) :
    Calls Tryz.prog 103 #[.pointer (some ⟨r, 0, none⟩)] w fun e w' => SignEnd r s a g w 2 e w' := by
  have HS := Lib.hid (tx_size' s)
  have HX : Hid ((tx s).extract a (a + 2) = tx [s.getD a 0, s.getD (a + 1) 0]) := Lib.hid (by rw [tx_extract, show a + 2 - a = 2 by omega, drop_two s a ha])
  have HR := Lib.hid h
  obtain ⟨c0, c1, c2, c3, fr, hlt⟩ := h.cells
  have f2 := fr 2
  have f1 := fr 1
  clear fr h
  have x1 : (a : Int) + 2 ≤ ((tx s).size : Int) := by have := HS.out; omega
  have h3 : s.getD (a + 1) 0 = 61 ∧ (s.getD a 0 = 33 ∨ s.getD a 0 = 60 ∨ s.getD a 0 = 62) := by simpa [isTwo, or_assoc] using h2
  clear h2
  go_enter Tryz.func103, Tryz.ntmps103
  go_wp2_with fail
  go_quiet (fail)
  go_wp2_with fail
  go_quiet (fail)
  rw [HX.out, h3.1]
  have h4 := h3.2
  clear h3 HX
  rcases h4 with h4 | h4 | h4
  all_goals
    rw [h4]
    clear h4
    have b1 := tx_toList [33, 61]
    have b2 := tx_toList [60, 61]
    have b3 := tx_toList [62, 61]
    go_wp2
    first | go_end0 | refine bodyPost_ret (results_none rfl _ _ _) rfl ?_
    exact ⟨(((But.refl [r] w).cell 2 _).drewN _).cell 1 _, .inl ⟨by decide, rfl, ((HR.out.kind 4).drewN _).at (a + 2)⟩⟩
set_option maxRecDepth 100000 in
set_option maxHeartbeats 8000000 in
theorem wsign1 (r : Nat) (s : Bs) (a k : Nat) (g : Bs) (hs : s.length ≤ 1000000) (ha : a < s.length) (w : World) (h : Rd w r s a k g) (h2 : isTwo (s.getD a 0) (s.getD (a + 1) 0) = false) :
    Calls Tryz.prog 103 #[.pointer (some ⟨r, 0, none⟩)] w fun e w' => SignEnd r s a g w (if isOne (s.getD a 0) = true then 1 else 0) e w' := by
  have HS := Lib.hid (tx_size' s)
  have HR := Lib.hid h
  have q1 : a < (tx s).size := by have := HS.out; omega
  have HC := Lib.hid (tx_at s a ha)
  obtain ⟨c0, c1, c2, c3, fr, hlt⟩ := h.cells
  have f2 := fr 2
  have f1 := fr 1
  clear fr h
  go_enter Tryz.func103, Tryz.ntmps103
  have HO : Hid (((s.getD a 0 = 61 ∨ s.getD a 0 = 60 ∨ s.getD a 0 = 62 ∨ s.getD a 0 = 43 ∨ s.getD a 0 = 45 ∨ s.getD a 0 = 42 ∨ s.getD a 0 = 47 ∨ s.getD a 0 = 40 ∨ s.getD a 0 = 41 ∨ s.getD a 0 = 44) ∧ (if isOne (s.getD a 0) = true then 1 else 0) = 1) ∨
      ((s.getD a 0 ≠ 61 ∧ s.getD a 0 ≠ 60 ∧ s.getD a 0 ≠ 62 ∧ s.getD a 0 ≠ 43 ∧ s.getD a 0 ≠ 45 ∧ s.getD a 0 ≠ 42 ∧ s.getD a 0 ≠ 47 ∧ s.getD a 0 ≠ 40 ∧ s.getD a 0 ≠ 41 ∧ s.getD a 0 ≠ 44) ∧ (if isOne (s.getD a 0) = true then 1 else 0) = 0)) := Lib.hid (by
    cases hq : isOne (s.getD a 0)
    · exact .inr ⟨by simpa [isOne, and_assoc] using hq, rfl⟩
    · exact .inl ⟨by simpa [isOne, or_assoc] using hq, rfl⟩)
  generalize (if isOne (s.getD a 0) = true then 1 else 0) = N at HO ⊢
  by_cases x0 : a + 2 ≤ s.length
  · have x1 : (a : Int) + 2 ≤ ((tx s).size : Int) := by have := HS.out; omega
    have HX : Hid ((tx s).extract a (a + 2) = tx [s.getD a 0, s.getD (a + 1) 0]) := Lib.hid (by rw [tx_extract, show a + 2 - a = 2 by omega, drop_two s a x0])
    obtain ⟨t1, t2, t3⟩ := two_no h2
    have T := Lib.hid (tx_toList [s.getD a 0, s.getD (a + 1) 0])
    rw [← T.out] at t1 t2 t3
    clear h2
    go_wp2_with fail
    go_quiet (fail)
    go_wp2_with fail
    go_quiet (fail)
    rw [HX.out]
    generalize tx [s.getD a 0, s.getD (a + 1) 0] = T2 at t1 t2 t3 ⊢
    clear HX T x1
    rcases HO.out with ⟨HZ, HI⟩ | ⟨HZ, HI⟩
    · rcases HZ with hz | hz | hz | hz | hz | hz | hz | hz | hz | hz
      · have z : (((tx s)[a]'q1).toNat : Int) = 61 := toNat_of (HC.out.trans hz)
        subst HI
        clear hz
        go_wp2_with fail
        go_quiet (fail)
        go_wp2
        first | go_end0 | refine bodyPost_ret (results_none rfl _ _ _) rfl ?_
        exact ⟨(((But.refl [r] w).cell 2 _).drewN _).cell 1 _, .inl ⟨by decide, rfl, ((HR.out.kind 4).drewN _).at (a + 1)⟩⟩
      · have z : (((tx s)[a]'q1).toNat : Int) = 60 := toNat_of (HC.out.trans hz)
        subst HI
        clear hz
        go_wp2_with fail
        go_quiet (fail)
        go_wp2
        first | go_end0 | refine bodyPost_ret (results_none rfl _ _ _) rfl ?_
        exact ⟨(((But.refl [r] w).cell 2 _).drewN _).cell 1 _, .inl ⟨by decide, rfl, ((HR.out.kind 4).drewN _).at (a + 1)⟩⟩
      · have z : (((tx s)[a]'q1).toNat : Int) = 62 := toNat_of (HC.out.trans hz)
        subst HI
        clear hz
        go_wp2_with fail
        go_quiet (fail)
        go_wp2
        first | go_end0 | refine bodyPost_ret (results_none rfl _ _ _) rfl ?_
        exact ⟨(((But.refl [r] w).cell 2 _).drewN _).cell 1 _, .inl ⟨by decide, rfl, ((HR.out.kind 4).drewN _).at (a + 1)⟩⟩
      · have z : (((tx s)[a]'q1).toNat : Int) = 43 := toNat_of (HC.out.trans hz)
        subst HI
        clear hz
        go_wp2_with fail
        go_quiet (fail)
        go_wp2
        first | go_end0 | refine bodyPost_ret (results_none rfl _ _ _) rfl ?_
        exact ⟨(((But.refl [r] w).cell 2 _).drewN _).cell 1 _, .inl ⟨by decide, rfl, ((HR.out.kind 4).drewN _).at (a + 1)⟩⟩
      · have z : (((tx s)[a]'q1).toNat : Int) = 45 := toNat_of (HC.out.trans hz)
        subst HI
        clear hz
        go_wp2_with fail
        go_quiet (fail)
        go_wp2
        first | go_end0 | refine bodyPost_ret (results_none rfl _ _ _) rfl ?_
        exact ⟨(((But.refl [r] w).cell 2 _).drewN _).cell 1 _, .inl ⟨by decide, rfl, ((HR.out.kind 4).drewN _).at (a + 1)⟩⟩
      · have z : (((tx s)[a]'q1).toNat : Int) = 42 := toNat_of (HC.out.trans hz)
        subst HI
        clear hz
        go_wp2_with fail
        go_quiet (fail)
        go_wp2
        first | go_end0 | refine bodyPost_ret (results_none rfl _ _ _) rfl ?_
        exact ⟨(((But.refl [r] w).cell 2 _).drewN _).cell 1 _, .inl ⟨by decide, rfl, ((HR.out.kind 4).drewN _).at (a + 1)⟩⟩
      · have z : (((tx s)[a]'q1).toNat : Int) = 47 := toNat_of (HC.out.trans hz)
        subst HI
        clear hz
        go_wp2_with fail
        go_quiet (fail)
        go_wp2
        first | go_end0 | refine bodyPost_ret (results_none rfl _ _ _) rfl ?_
        exact ⟨(((But.refl [r] w).cell 2 _).drewN _).cell 1 _, .inl ⟨by decide, rfl, ((HR.out.kind 4).drewN _).at (a + 1)⟩⟩
      · have z : (((tx s)[a]'q1).toNat : Int) = 40 := toNat_of (HC.out.trans hz)
        subst HI
        clear hz
        go_wp2_with fail
        go_quiet (fail)
        go_wp2
        first | go_end0 | refine bodyPost_ret (results_none rfl _ _ _) rfl ?_
        exact ⟨(((But.refl [r] w).cell 2 _).drewN _).cell 1 _, .inl ⟨by decide, rfl, ((HR.out.kind 4).drewN _).at (a + 1)⟩⟩
      · have z : (((tx s)[a]'q1).toNat : Int) = 41 := toNat_of (HC.out.trans hz)
        subst HI
        clear hz
        go_wp2_with fail
        go_quiet (fail)
        go_wp2
        first | go_end0 | refine bodyPost_ret (results_none rfl _ _ _) rfl ?_
        exact ⟨(((But.refl [r] w).cell 2 _).drewN _).cell 1 _, .inl ⟨by decide, rfl, ((HR.out.kind 4).drewN _).at (a + 1)⟩⟩
      · have z : (((tx s)[a]'q1).toNat : Int) = 44 := toNat_of (HC.out.trans hz)
        subst HI
        clear hz
        go_wp2_with fail
        go_quiet (fail)
        go_wp2
        first | go_end0 | refine bodyPost_ret (results_none rfl _ _ _) rfl ?_
        exact ⟨(((But.refl [r] w).cell 2 _).drewN _).cell 1 _, .inl ⟨by decide, rfl, ((HR.out.kind 4).drewN _).at (a + 1)⟩⟩
    · obtain ⟨n1, n2, n3, n4, n5, n6, n7, n8, n9, n10⟩ := HZ
      rw [← HC.out] at n1 n2 n3 n4 n5 n6 n7 n8 n9 n10
      have z1 : ¬ (((tx s)[a]'q1).toNat : Int) = 61 := ne_nat n1
      have z2 : ¬ (((tx s)[a]'q1).toNat : Int) = 60 := ne_nat n2
      have z3 : ¬ (((tx s)[a]'q1).toNat : Int) = 62 := ne_nat n3
      have z4 : ¬ (((tx s)[a]'q1).toNat : Int) = 43 := ne_nat n4
      have z5 : ¬ (((tx s)[a]'q1).toNat : Int) = 45 := ne_nat n5
      have z6 : ¬ (((tx s)[a]'q1).toNat : Int) = 42 := ne_nat n6
      have z7 : ¬ (((tx s)[a]'q1).toNat : Int) = 47 := ne_nat n7
      have z8 : ¬ (((tx s)[a]'q1).toNat : Int) = 40 := ne_nat n8
      have z9 : ¬ (((tx s)[a]'q1).toNat : Int) = 41 := ne_nat n9
      have z10 : ¬ (((tx s)[a]'q1).toNat : Int) = 44 := ne_nat n10
      subst HI
      clear n1 n2 n3 n4 n5 n6 n7 n8 n9 n10
      go_wp2_with fail
      go_quiet (fail)
      go_wp2
      exact ⟨rfl, ((But.refl [r] w).cell 2 _).drewN _, .inr ⟨rfl, rfl⟩⟩
  · have x1 : decide ((a : Int) + 2 ≤ ((tx s).size : Int)) = false := decide_eq_false (by have := HS.out; omega)
    clear h2
    go_wp2_with fail
    go_quiet (fail)
    clear x1
    rcases HO.out with ⟨HZ, HI⟩ | ⟨HZ, HI⟩
    · rcases HZ with hz | hz | hz | hz | hz | hz | hz | hz | hz | hz
      · have z : (((tx s)[a]'q1).toNat : Int) = 61 := toNat_of (HC.out.trans hz)
        subst HI
        clear hz
        go_wp2_with fail
        go_quiet (fail)
        go_wp2
        first | go_end0 | refine bodyPost_ret (results_none rfl _ _ _) rfl ?_
        exact ⟨(((But.refl [r] w).cell 2 _).drewN _).cell 1 _, .inl ⟨by decide, rfl, ((HR.out.kind 4).drewN _).at (a + 1)⟩⟩
      · have z : (((tx s)[a]'q1).toNat : Int) = 60 := toNat_of (HC.out.trans hz)
        subst HI
        clear hz
        go_wp2_with fail
        go_quiet (fail)
        go_wp2
        first | go_end0 | refine bodyPost_ret (results_none rfl _ _ _) rfl ?_
        exact ⟨(((But.refl [r] w).cell 2 _).drewN _).cell 1 _, .inl ⟨by decide, rfl, ((HR.out.kind 4).drewN _).at (a + 1)⟩⟩
      · have z : (((tx s)[a]'q1).toNat : Int) = 62 := toNat_of (HC.out.trans hz)
        subst HI
        clear hz
        go_wp2_with fail
        go_quiet (fail)
        go_wp2
        first | go_end0 | refine bodyPost_ret (results_none rfl _ _ _) rfl ?_
        exact ⟨(((But.refl [r] w).cell 2 _).drewN _).cell 1 _, .inl ⟨by decide, rfl, ((HR.out.kind 4).drewN _).at (a + 1)⟩⟩
      · have z : (((tx s)[a]'q1).toNat : Int) = 43 := toNat_of (HC.out.trans hz)
        subst HI
        clear hz
        go_wp2_with fail
        go_quiet (fail)
        go_wp2
        first | go_end0 | refine bodyPost_ret (results_none rfl _ _ _) rfl ?_
        exact ⟨(((But.refl [r] w).cell 2 _).drewN _).cell 1 _, .inl ⟨by decide, rfl, ((HR.out.kind 4).drewN _).at (a + 1)⟩⟩
      · have z : (((tx s)[a]'q1).toNat : Int) = 45 := toNat_of (HC.out.trans hz)
        subst HI
        clear hz
        go_wp2_with fail
        go_quiet (fail)
        go_wp2
        first | go_end0 | refine bodyPost_ret (results_none rfl _ _ _) rfl ?_
        exact ⟨(((But.refl [r] w).cell 2 _).drewN _).cell 1 _, .inl ⟨by decide, rfl, ((HR.out.kind 4).drewN _).at (a + 1)⟩⟩
      · have z : (((tx s)[a]'q1).toNat : Int) = 42 := toNat_of (HC.out.trans hz)
        subst HI
        clear hz
        go_wp2_with fail
        go_quiet (fail)
        go_wp2
        first | go_end0 | refine bodyPost_ret (results_none rfl _ _ _) rfl ?_
        exact ⟨(((But.refl [r] w).cell 2 _).drewN _).cell 1 _, .inl ⟨by decide, rfl, ((HR.out.kind 4).drewN _).at (a + 1)⟩⟩
      · have z : (((tx s)[a]'q1).toNat : Int) = 47 := toNat_of (HC.out.trans hz)
        subst HI
        clear hz
        go_wp2_with fail
        go_quiet (fail)
        go_wp2
        first | go_end0 | refine bodyPost_ret (results_none rfl _ _ _) rfl ?_
        exact ⟨(((But.refl [r] w).cell 2 _).drewN _).cell 1 _, .inl ⟨by decide, rfl, ((HR.out.kind 4).drewN _).at (a + 1)⟩⟩
      · have z : (((tx s)[a]'q1).toNat : Int) = 40 := toNat_of (HC.out.trans hz)
        subst HI
        clear hz
        go_wp2_with fail
        go_quiet (fail)
        go_wp2
        first | go_end0 | refine bodyPost_ret (results_none rfl _ _ _) rfl ?_
        exact ⟨(((But.refl [r] w).cell 2 _).drewN _).cell 1 _, .inl ⟨by decide, rfl, ((HR.out.kind 4).drewN _).at (a + 1)⟩⟩
      · have z : (((tx s)[a]'q1).toNat : Int) = 41 := toNat_of (HC.out.trans hz)
        subst HI
        clear hz
        go_wp2_with fail
        go_quiet (fail)
        go_wp2
        first | go_end0 | refine bodyPost_ret (results_none rfl _ _ _) rfl ?_
        exact ⟨(((But.refl [r] w).cell 2 _).drewN _).cell 1 _, .inl ⟨by decide, rfl, ((HR.out.kind 4).drewN _).at (a + 1)⟩⟩
      · have z : (((tx s)[a]'q1).toNat : Int) = 44 := toNat_of (HC.out.trans hz)
        subst HI
        clear hz
        go_wp2_with fail
        go_quiet (fail)
        go_wp2
        first | go_end0 | refine bodyPost_ret (results_none rfl _ _ _) rfl ?_
        exact ⟨(((But.refl [r] w).cell 2 _).drewN _).cell 1 _, .inl ⟨by decide, rfl, ((HR.out.kind 4).drewN _).at (a + 1)⟩⟩
    · obtain ⟨n1, n2, n3, n4, n5, n6, n7, n8, n9, n10⟩ := HZ
      rw [← HC.out] at n1 n2 n3 n4 n5 n6 n7 n8 n9 n10
      have z1 : ¬ (((tx s)[a]'q1).toNat : Int) = 61 := ne_nat n1
      have z2 : ¬ (((tx s)[a]'q1).toNat : Int) = 60 := ne_nat n2
      have z3 : ¬ (((tx s)[a]'q1).toNat : Int) = 62 := ne_nat n3
      have z4 : ¬ (((tx s)[a]'q1).toNat : Int) = 43 := ne_nat n4
      have z5 : ¬ (((tx s)[a]'q1).toNat : Int) = 45 := ne_nat n5
      have z6 : ¬ (((tx s)[a]'q1).toNat : Int) = 42 := ne_nat n6
      have z7 : ¬ (((tx s)[a]'q1).toNat : Int) = 47 := ne_nat n7
      have z8 : ¬ (((tx s)[a]'q1).toNat : Int) = 40 := ne_nat n8
      have z9 : ¬ (((tx s)[a]'q1).toNat : Int) = 41 := ne_nat n9
      have z10 : ¬ (((tx s)[a]'q1).toNat : Int) = 44 := ne_nat n10
      subst HI
      clear n1 n2 n3 n4 n5 n6 n7 n8 n9 n10
      go_wp2_with fail
      go_quiet (fail)
      go_wp2
      exact ⟨rfl, ((But.refl [r] w).cell 2 _).drewN _, .inr ⟨rfl, rfl⟩⟩
end Go.Proofs.YtdomglkcfecnnaaGreat
/- Walks: desc: within, TypeOf, listed, flat, label. -/
namespace Go.Proofs.YtdomglkcfecnnaaGreat
open Go.RowKit Go.Shelf
theorem dwithin (n lo hi : Int) (w : World) : Calls Tryz.prog 29 #[.int .i64 n, .int .i64 lo, .int .i64 hi] w fun e w' => e = .returned (.bool (decide (lo ≤ n ∧ n ≤ hi))) ∧ w = w' := by
  by_cases a : lo ≤ n
  · by_cases b : n ≤ hi
    · have h : decide (lo ≤ n ∧ n ≤ hi) = true := by simp [a, b]
      have h1 : decide (lo ≤ n) = true := by simp [a]
      have h2 : decide (n ≤ hi) = true := by simp [b]
      rw [h]
      clear h
      go_enter Tryz.func29, Tryz.ntmps29
      go_wp2
      go_ret
      exact ⟨rfl, rfl⟩
    · have h : decide (lo ≤ n ∧ n ≤ hi) = false := by simp [b]
      have h1 : decide (lo ≤ n) = true := by simp [a]
      have h2 : decide (n ≤ hi) = false := by simp [b]
      rw [h]
      clear h
      go_enter Tryz.func29, Tryz.ntmps29
      go_wp2
      go_ret
      exact ⟨rfl, rfl⟩
  · have h : decide (lo ≤ n ∧ n ≤ hi) = false := by simp [a]
    have h1 : decide (lo ≤ n) = false := by simp [a]
    rw [h]
    clear h
    go_enter Tryz.func29, Tryz.ntmps29
    go_wp2
    go_ret
    exact ⟨rfl, rfl⟩
theorem tyK_cases (k : Int) : (k = 1 ∧ tyK k = 2) ∨ (k = 2 ∧ tyK k = 2) ∨ (k = 3 ∧ tyK k = 1) ∨ (k = 4 ∧ tyK k = 2) ∨ (k = 5 ∧ tyK k = 3) ∨ (k = 6 ∧ tyK k = 2) ∨ (k = 7 ∧ tyK k = 1) ∨ (k = 8 ∧ tyK k = 2) ∨ (k = 9 ∧ tyK k = 1) ∨
    ((k ≠ 1 ∧ k ≠ 2 ∧ k ≠ 3 ∧ k ≠ 4 ∧ k ≠ 5 ∧ k ≠ 6 ∧ k ≠ 7 ∧ k ≠ 8 ∧ k ≠ 9) ∧ tyK k = 0) := by
  unfold tyK
  by_cases h1 : k = 1
  · subst h1; simp
  by_cases h2 : k = 2
  · subst h2; simp
  by_cases h3 : k = 3
  · subst h3; simp
  by_cases h4 : k = 4
  · subst h4; simp
  by_cases h5 : k = 5
  · subst h5; simp
  by_cases h6 : k = 6
  · subst h6; simp
  by_cases h7 : k = 7
  · subst h7; simp
  by_cases h8 : k = 8
  · subst h8; simp
  by_cases h9 : k = 9
  · subst h9; simp
  simp [h1, h2, h3, h4, h5, h6, h7, h8, h9]
/-- The tests that a kind that is none takes. -/
theorem no_kind {k : Int} (h : k ≠ 1 ∧ k ≠ 2 ∧ k ≠ 3 ∧ k ≠ 4 ∧ k ≠ 5 ∧ k ≠ 6 ∧ k ≠ 7 ∧ k ≠ 8 ∧ k ≠ 9) :
    (k == 1) = false ∧ (k == 2) = false ∧ (k == 3) = false ∧ (k == 4) = false ∧ (k == 5) = false ∧ (k == 6) = false ∧ (k == 7) = false ∧ (k == 8) = false ∧ (k == 9) = false := by
  obtain ⟨h1, h2, h3, h4, h5, h6, h7, h8, h9⟩ := h
  exact ⟨by simpa using h1, by simpa using h2, by simpa using h3, by simpa using h4, by simpa using h5, by simpa using h6, by simpa using h7, by simpa using h8, by simpa using h9⟩
set_option maxHeartbeats 2000000 in
theorem dTypeOf (k : Int) (w : World) : Calls Tryz.prog 51 #[.int .i64 k] w fun e w' => e = .returned (.int .i64 (tyK k)) ∧ w = w' := by
  rcases tyK_cases k with ⟨rfl, h⟩ | ⟨rfl, h⟩ | ⟨rfl, h⟩ | ⟨rfl, h⟩ | ⟨rfl, h⟩ | ⟨rfl, h⟩ | ⟨rfl, h⟩ | ⟨rfl, h⟩ | ⟨rfl, h⟩ | ⟨hk, h⟩
  all_goals rw [h]; clear h
  case inr.inr.inr.inr.inr.inr.inr.inr.inr =>
    obtain ⟨b1, b2, b3, b4, b5, b6, b7, b8, b9⟩ := no_kind hk
    clear hk
    go_enter Tryz.func51, Tryz.ntmps51
    go_wp2
    go_ret
    exact ⟨rfl, rfl⟩
  all_goals
    go_enter Tryz.func51, Tryz.ntmps51
    go_wp2
    go_ret
    exact ⟨rfl, rfl⟩
set_option maxHeartbeats 2000000 in
theorem dlisted (k : Int) (w : World) : Calls Tryz.prog 58 #[.int .i64 k] w fun e w' => e = .returned (.bool (listK k)) ∧ w = w' := by
  unfold listK
  by_cases h6 : k = 6
  · subst h6
    go_enter Tryz.func58, Tryz.ntmps58
    go_wp2
    go_ret
    exact ⟨rfl, rfl⟩
  by_cases h7 : k = 7
  · subst h7
    go_enter Tryz.func58, Tryz.ntmps58
    go_wp2
    go_ret
    exact ⟨rfl, rfl⟩
  by_cases h8 : k = 8
  · subst h8
    go_enter Tryz.func58, Tryz.ntmps58
    go_wp2
    go_ret
    exact ⟨rfl, rfl⟩
  have h : decide (k = 6 ∨ k = 7 ∨ k = 8) = false := by simp [h6, h7, h8]
  have b6 : (k == 6) = false := by simpa using h6
  have b7 : (k == 7) = false := by simpa using h7
  have b8 : (k == 8) = false := by simpa using h8
  rw [h]
  clear h h6 h7 h8
  go_enter Tryz.func58, Tryz.ntmps58
  go_wp2
  go_ret
  exact ⟨rfl, rfl⟩
set_option maxHeartbeats 2000000 in
theorem dflat (l : Bs) (lo hi : Int) (hl : l.length ≤ 900000) (w : World) : Calls Tryz.prog 47 #[.string (tx l), .int .i64 lo, .int .i64 hi] w fun e w' => e = .returned (.bool (flatP l lo hi)) ∧ Below w.heap.size w w' := by
  have HF := Lib.hid (fun W => wflat l hl W)
  have HC := Lib.hid (fun W => wcount l hl W)
  have HW := Lib.hid (fun W => dwithin (cutS l).length lo hi W)
  have HE := Lib.hid (tx_beq (flatS l) l)
  unfold flatP
  generalize decide (lo ≤ ((cutS l).length : Int) ∧ ((cutS l).length : Int) ≤ hi) = B at HW ⊢
  cases hd : decide (flatS l = l)
  · rw [hd] at HE
    have HE2 := HE.out
    go_enter Tryz.func47, Tryz.ntmps47
    go_wp2_with (first | (go_at_call 65; refine (HF.out _).mono ?_; rintro e w1 ⟨rfl, hb1⟩))
    go_ret
    exact ⟨rfl, hb1⟩
  · rw [hd] at HE
    have HE2 := HE.out
    go_enter Tryz.func47, Tryz.ntmps47
    go_wp2_with (first | (go_at_call 65; refine (HF.out _).mono ?_; rintro e w1 ⟨rfl, hb1⟩) | (go_at_call 66; refine (HC.out _).mono ?_; rintro e w2 ⟨rfl, hb2⟩) | (go_at_call 29; refine (HW.out _).mono ?_; rintro e w3 ⟨rfl, rfl⟩))
    go_ret
    exact ⟨by simp, hb1.trans (below_le hb2 hb1.size)⟩
theorem dlabel (l : Bs) (hl : l.length ≤ 900000) (w : World) : Calls Tryz.prog 30 #[.string (tx l)] w fun e w' => e = .returned (.bool (labelP l)) ∧ Below w.heap.size w w' := by
  have HF := Lib.hid (fun W => dflat l 1 64 hl W)
  unfold labelP
  go_enter Tryz.func30, Tryz.ntmps30
  go_wp2_with (first | (go_at_call 47; refine (HF.out _).mono ?_; rintro e w1 ⟨rfl, hb1⟩))
  go_ret
  exact ⟨rfl, hb1⟩
end Go.Proofs.YtdomglkcfecnnaaGreat
