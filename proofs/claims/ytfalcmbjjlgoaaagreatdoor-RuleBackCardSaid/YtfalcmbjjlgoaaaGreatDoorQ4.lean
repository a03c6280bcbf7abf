/- Walks: is, sign. -/
import Derived.Test.YtfalcmbjjlgoaaaGreatDoorQ3
namespace Go.Proofs.YtfalcmbjjlgoaaaGreatDoor
open Go.RowKit Go.Shelf
theorem tx_inj {a b : Bs} (h : tx a = tx b) : a = b := by
  have : (tx a).data.toList = (tx b).data.toList := by rw [h]
  simpa [tx] using this
theorem tx_list (a : Bs) : (tx a).data.toList = a := by simp [tx]
theorem tx_size' (a : Bs) : (tx a).size = a.length := by simp [tx, ByteArray.size]
theorem tx_beq (a b : Bs) : ((tx a).toList == (tx b).toList) = decide (a = b) := by
  rw [beq_bytes, Bool.eq_iff_iff, decide_eq_true_iff, decide_eq_true_iff]
  exact ⟨tx_inj, fun h => by rw [h]⟩
theorem tx_data (b : ByteArray) : tx b.data.toList = b := by
  obtain ⟨⟨x⟩⟩ := b
  rfl
theorem tx_extract (s : Bs) (a b : Nat) : (tx s).extract a b = tx ((s.drop a).take (b - a)) := by
  have h := Lib.extract_data (tx s) a b
  rw [tx_list] at h
  exact (tx_data _).symm.trans (by rw [h])
theorem wrdIs (r : Nat) (s : Bs) (a k : Nat) (g : Bs) (kk : Nat) (str : Bs) (w : World) (h : Rd w r s a k g) :
    Calls Tryz.prog 57 #[.pointer (some ⟨r, 0, none⟩), .int .i64 kk, .string (tx str)] w fun e w' => e = .returned (.bool (k == kk && decide (g = str))) ∧ w = w' := by
  obtain ⟨c0, c1, c2, c3, fr, hlt⟩ := h.cells
  have HB := Lib.hid (tx_beq g str)
  clear fr h c0 c1
  by_cases q : k = kk
  · subst q
    go_enter Tryz.func57, Tryz.ntmps57
    go_wp2
    go_ret
    exact ⟨ret_bool (by simp [HB.out]), rfl⟩
  · have q2 : ¬ (k : Int) = (kk : Int) := by omega
    have q3 : (k == kk) = false := by simpa using q
    go_enter Tryz.func57, Tryz.ntmps57
    go_wp2
    go_ret
    exact ⟨by rw [q3]; rfl, rfl⟩
theorem tx_toList (a : Bs) : (tx a).toList = a := by rw [ByteArray.toList_eq, tx_list]
theorem drop_two (s : Bs) (a : Nat) (h : a + 2 ≤ s.length) : (s.drop a).take 2 = [s.getD a 0, s.getD (a + 1) 0] := by
  rw [List.drop_eq_getElem_cons (by omega), List.drop_eq_getElem_cons (by omega : a + 1 < s.length), List.getD_eq_getElem?_getD, List.getD_eq_getElem?_getD, List.getElem?_eq_getElem (show a < s.length by omega), List.getElem?_eq_getElem (show a + 1 < s.length by omega)]
  rfl
theorem two_no {c d : UInt8} (h : isTwo c d = false) : ([c, d] == ([33, 61] : Bs)) = false ∧ ([c, d] == ([60, 61] : Bs)) = false ∧ ([c, d] == ([62, 61] : Bs)) = false := by
  unfold isTwo at h
  cases hd : (d == 61) <;> cases h1 : (c == 33) <;> cases h2 : (c == 60) <;> cases h3 : (c == 62) <;> simp [hd, h1, h2, h3] at h ⊢ <;> simp_all
theorem toNat_of {c v : UInt8} (h : c = v) : (c.toNat : Int) = (v.toNat : Int) := by rw [h]
theorem ne_nat {c v : UInt8} (h : c ≠ v) : ¬ (c.toNat : Int) = (v.toNat : Int) := fun e => h (UInt8.toNat_inj.1 (by omega))
/-- Behind the two-byte signs: one byte, or none. -/
def SignEnd (r : Nat) (s : Bs) (a : Nat) (g : Bs) (w : World) (n : Nat) (e : Ending) (w' : World) : Prop := But [r] w w' ∧ ((n ≠ 0 ∧ e = .returned (.tuple #[]) ∧ Rd w' r s (a + n) 4 g) ∨ (n = 0 ∧ Pan e))
set_option maxRecDepth 100000 in
set_option maxHeartbeats 4000000 in
theorem wsign2 (r : Nat) (s : Bs) (a k : Nat) (g : Bs) (hs : s.length ≤ 1000000) (ha : a + 2 ≤ s.length) (w : World) (h : Rd w r s a k g) (h2 : isTwo (s.getD a 0) (s.getD (a + 1) 0) = true) :
    Calls Tryz.prog 55 #[.pointer (some ⟨r, 0, none⟩)] w fun e w' => SignEnd r s a g w 2 e w' := by
  have HS := Lib.hid (tx_size' s)
  have HX : Hid ((tx s).extract a (a + 2) = tx [s.getD a 0, s.getD (a + 1) 0]) := Lib.hid (by rw [tx_extract, show a + 2 - a = 2 by omega, drop_two s a ha])
  have HR := Lib.hid h
  obtain ⟨c0, c1, c2, c3, fr, hlt⟩ := h.cells
  have f2 := fr 2
  have f1 := fr 1
  clear fr h
  have x1 : (a : Int) + 2 ≤ ((tx s).size : Int) := by have := HS.out; omega
  have h3 : s.getD (a + 1) 0 = 61 ∧ (s.getD a 0 = 33 ∨ s.getD a 0 = 60 ∨ s.getD a 0 = 62) := by simpa [isTwo, or_assoc] using h2
  clear h2
  go_enter Tryz.func55, Tryz.ntmps55
  go_wp2_with fail
  go_quiet (fail)
  go_wp2_with fail
  go_quiet (fail)
  rw [HX.out, h3.1]
  have h4 := h3.2
  clear h3 HX
  rcases h4 with h4 | h4 | h4
  all_goals
    rw [h4]
    clear h4
    have b1 := tx_toList [33, 61]
    have b2 := tx_toList [60, 61]
    have b3 := tx_toList [62, 61]
    go_wp2
    first | go_end0 | refine bodyPost_ret (results_none rfl _ _ _) rfl ?_
    exact ⟨(((But.refl [r] w).cell 2 _).drewN _).cell 1 _, .inl ⟨by decide, rfl, ((HR.out.kind 4).drewN _).at (a + 2)⟩⟩
set_option maxRecDepth 100000 in
set_option maxHeartbeats 8000000 in
theorem wsign1 (r : Nat) (s : Bs) (a k : Nat) (g : Bs) (hs : s.length ≤ 1000000) (ha : a < s.length) (w : World) (h : Rd w r s a k g) (h2 : isTwo (s.getD a 0) (s.getD (a + 1) 0) = false) :
    Calls Tryz.prog 55 #[.pointer (some ⟨r, 0, none⟩)] w fun e w' => SignEnd r s a g w (if isOne (s.getD a 0) = true then 1 else 0) e w' := by
  have HS := Lib.hid (tx_size' s)
  have HR := Lib.hid h
  have q1 : a < (tx s).size := by have := HS.out; omega
  have HC := Lib.hid (tx_at s a ha)
  obtain ⟨c0, c1, c2, c3, fr, hlt⟩ := h.cells
  have f2 := fr 2
  have f1 := fr 1
  clear fr h
  go_enter Tryz.func55, Tryz.ntmps55
  have HO : Hid (((s.getD a 0 = 61 ∨ s.getD a 0 = 60 ∨ s.getD a 0 = 62 ∨ s.getD a 0 = 43 ∨ s.getD a 0 = 45 ∨ s.getD a 0 = 42 ∨ s.getD a 0 = 47 ∨ s.getD a 0 = 40 ∨ s.getD a 0 = 41 ∨ s.getD a 0 = 44) ∧ (if isOne (s.getD a 0) = true then 1 else 0) = 1) ∨
      ((s.getD a 0 ≠ 61 ∧ s.getD a 0 ≠ 60 ∧ s.getD a 0 ≠ 62 ∧ s.getD a 0 ≠ 43 ∧ s.getD a 0 ≠ 45 ∧ s.getD a 0 ≠ 42 ∧ s.getD a 0 ≠ 47 ∧ s.getD a 0 ≠ 40 ∧ s.getD a 0 ≠ 41 ∧ s.getD a 0 ≠ 44) ∧ (if isOne (s.getD a 0) = true then 1 else 0) = 0)) := Lib.hid (by
    cases hq : isOne (s.getD a 0)
    · exact .inr ⟨by simpa [isOne, and_assoc] using hq, rfl⟩
    · exact .inl ⟨by simpa [isOne, or_assoc] using hq, rfl⟩)
  generalize (if isOne (s.getD a 0) = true then 1 else 0) = N at HO ⊢
  by_cases x0 : a + 2 ≤ s.length
  · have x1 : (a : Int) + 2 ≤ ((tx s).size : Int) := by have := HS.out; omega
    have HX : Hid ((tx s).extract a (a + 2) = tx [s.getD a 0, s.getD (a + 1) 0]) := Lib.hid (by rw [tx_extract, show a + 2 - a = 2 by omega, drop_two s a x0])
    obtain ⟨t1, t2, t3⟩ := two_no h2
    have T := Lib.hid (tx_toList [s.getD a 0, s.getD (a + 1) 0])
    rw [← T.out] at t1 t2 t3
    clear h2
    go_wp2_with fail
    go_quiet (fail)
    go_wp2_with fail
    go_quiet (fail)
    rw [HX.out]
    generalize tx [s.getD a 0, s.getD (a + 1) 0] = T2 at t1 t2 t3 ⊢
    clear HX T x1
    rcases HO.out with ⟨HZ, HI⟩ | ⟨HZ, HI⟩
    · rcases HZ with hz | hz | hz | hz | hz | hz | hz | hz | hz | hz
      · have z : (((tx s)[a]'q1).toNat : Int) = 61 := toNat_of (HC.out.trans hz)
        subst HI
        clear hz
        go_wp2_with fail
        go_quiet (fail)
        go_wp2
        first | go_end0 | refine bodyPost_ret (results_none rfl _ _ _) rfl ?_
        exact ⟨(((But.refl [r] w).cell 2 _).drewN _).cell 1 _, .inl ⟨by decide, rfl, ((HR.out.kind 4).drewN _).at (a + 1)⟩⟩
      · have z : (((tx s)[a]'q1).toNat : Int) = 60 := toNat_of (HC.out.trans hz)
        subst HI
        clear hz
        go_wp2_with fail
        go_quiet (fail)
        go_wp2
        first | go_end0 | refine bodyPost_ret (results_none rfl _ _ _) rfl ?_
        exact ⟨(((But.refl [r] w).cell 2 _).drewN _).cell 1 _, .inl ⟨by decide, rfl, ((HR.out.kind 4).drewN _).at (a + 1)⟩⟩
      · have z : (((tx s)[a]'q1).toNat : Int) = 62 := toNat_of (HC.out.trans hz)
        subst HI
        clear hz
        go_wp2_with fail
        go_quiet (fail)
        go_wp2
        first | go_end0 | refine bodyPost_ret (results_none rfl _ _ _) rfl ?_
        exact ⟨(((But.refl [r] w).cell 2 _).drewN _).cell 1 _, .inl ⟨by decide, rfl, ((HR.out.kind 4).drewN _).at (a + 1)⟩⟩
      · have z : (((tx s)[a]'q1).toNat : Int) = 43 := toNat_of (HC.out.trans hz)
        subst HI
        clear hz
        go_wp2_with fail
        go_quiet (fail)
        go_wp2
        first | go_end0 | refine bodyPost_ret (results_none rfl _ _ _) rfl ?_
        exact ⟨(((But.refl [r] w).cell 2 _).drewN _).cell 1 _, .inl ⟨by decide, rfl, ((HR.out.kind 4).drewN _).at (a + 1)⟩⟩
      · have z : (((tx s)[a]'q1).toNat : Int) = 45 := toNat_of (HC.out.trans hz)
        subst HI
        clear hz
        go_wp2_with fail
        go_quiet (fail)
        go_wp2
        first | go_end0 | refine bodyPost_ret (results_none rfl _ _ _) rfl ?_
        exact ⟨(((But.refl [r] w).cell 2 _).drewN _).cell 1 _, .inl ⟨by decide, rfl, ((HR.out.kind 4).drewN _).at (a + 1)⟩⟩
      · have z : (((tx s)[a]'q1).toNat : Int) = 42 := toNat_of (HC.out.trans hz)
        subst HI
        clear hz
        go_wp2_with fail
        go_quiet (fail)
        go_wp2
        first | go_end0 | refine bodyPost_ret (results_none rfl _ _ _) rfl ?_
        exact ⟨(((But.refl [r] w).cell 2 _).drewN _).cell 1 _, .inl ⟨by decide, rfl, ((HR.out.kind 4).drewN _).at (a + 1)⟩⟩
      · have z : (((tx s)[a]'q1).toNat : Int) = 47 := toNat_of (HC.out.trans hz)
        subst HI
        clear hz
        go_wp2_with fail
        go_quiet (fail)
        go_wp2
        first | go_end0 | refine bodyPost_ret (results_none rfl _ _ _) rfl ?_
        exact ⟨(((But.refl [r] w).cell 2 _).drewN _).cell 1 _, .inl ⟨by decide, rfl, ((HR.out.kind 4).drewN _).at (a + 1)⟩⟩
      · have z : (((tx s)[a]'q1).toNat : Int) = 40 := toNat_of (HC.out.trans hz)
        subst HI
        clear hz
        go_wp2_with fail
        go_quiet (fail)
        go_wp2
        first | go_end0 | refine bodyPost_ret (results_none rfl _ _ _) rfl ?_
        exact ⟨(((But.refl [r] w).cell 2 _).drewN _).cell 1 _, .inl ⟨by decide, rfl, ((HR.out.kind 4).drewN _).at (a + 1)⟩⟩
      · have z : (((tx s)[a]'q1).toNat : Int) = 41 := toNat_of (HC.out.trans hz)
        subst HI
        clear hz
        go_wp2_with fail
        go_quiet (fail)
        go_wp2
        first | go_end0 | refine bodyPost_ret (results_none rfl _ _ _) rfl ?_
        exact ⟨(((But.refl [r] w).cell 2 _).drewN _).cell 1 _, .inl ⟨by decide, rfl, ((HR.out.kind 4).drewN _).at (a + 1)⟩⟩
      · have z : (((tx s)[a]'q1).toNat : Int) = 44 := toNat_of (HC.out.trans hz)
        subst HI
        clear hz
        go_wp2_with fail
        go_quiet (fail)
        go_wp2
        first | go_end0 | refine bodyPost_ret (results_none rfl _ _ _) rfl ?_
        exact ⟨(((But.refl [r] w).cell 2 _).drewN _).cell 1 _, .inl ⟨by decide, rfl, ((HR.out.kind 4).drewN _).at (a + 1)⟩⟩
    · obtain ⟨n1, n2, n3, n4, n5, n6, n7, n8, n9, n10⟩ := HZ
      rw [← HC.out] at n1 n2 n3 n4 n5 n6 n7 n8 n9 n10
      have z1 : ¬ (((tx s)[a]'q1).toNat : Int) = 61 := ne_nat n1
      have z2 : ¬ (((tx s)[a]'q1).toNat : Int) = 60 := ne_nat n2
      have z3 : ¬ (((tx s)[a]'q1).toNat : Int) = 62 := ne_nat n3
      have z4 : ¬ (((tx s)[a]'q1).toNat : Int) = 43 := ne_nat n4
      have z5 : ¬ (((tx s)[a]'q1).toNat : Int) = 45 := ne_nat n5
      have z6 : ¬ (((tx s)[a]'q1).toNat : Int) = 42 := ne_nat n6
      have z7 : ¬ (((tx s)[a]'q1).toNat : Int) = 47 := ne_nat n7
      have z8 : ¬ (((tx s)[a]'q1).toNat : Int) = 40 := ne_nat n8
      have z9 : ¬ (((tx s)[a]'q1).toNat : Int) = 41 := ne_nat n9
      have z10 : ¬ (((tx s)[a]'q1).toNat : Int) = 44 := ne_nat n10
      subst HI
      clear n1 n2 n3 n4 n5 n6 n7 n8 n9 n10
      go_wp2_with fail
      go_quiet (fail)
      go_wp2
      exact ⟨rfl, ((But.refl [r] w).cell 2 _).drewN _, .inr ⟨rfl, rfl⟩⟩
  · have x1 : decide ((a : Int) + 2 ≤ ((tx s).size : Int)) = false := decide_eq_false (by have := HS.out; omega)
    clear h2
    go_wp2_with fail
    go_quiet (fail)
    clear x1
    rcases HO.out with ⟨HZ, HI⟩ | ⟨HZ, HI⟩
    · rcases HZ with hz | hz | hz | hz | hz | hz | hz | hz | hz | hz
      · have z : (((tx s)[a]'q1).toNat : Int) = 61 := toNat_of (HC.out.trans hz)
        subst HI
        clear hz
        go_wp2_with fail
        go_quiet (fail)
        go_wp2
        first | go_end0 | refine bodyPost_ret (results_none rfl _ _ _) rfl ?_
        exact ⟨(((But.refl [r] w).cell 2 _).drewN _).cell 1 _, .inl ⟨by decide, rfl, ((HR.out.kind 4).drewN _).at (a + 1)⟩⟩
      · have z : (((tx s)[a]'q1).toNat : Int) = 60 := toNat_of (HC.out.trans hz)
        subst HI
        clear hz
        go_wp2_with fail
        go_quiet (fail)
        go_wp2
        first | go_end0 | refine bodyPost_ret (results_none rfl _ _ _) rfl ?_
        exact ⟨(((But.refl [r] w).cell 2 _).drewN _).cell 1 _, .inl ⟨by decide, rfl, ((HR.out.kind 4).drewN _).at (a + 1)⟩⟩
      · have z : (((tx s)[a]'q1).toNat : Int) = 62 := toNat_of (HC.out.trans hz)
        subst HI
        clear hz
        go_wp2_with fail
        go_quiet (fail)
        go_wp2
        first | go_end0 | refine bodyPost_ret (results_none rfl _ _ _) rfl ?_
        exact ⟨(((But.refl [r] w).cell 2 _).drewN _).cell 1 _, .inl ⟨by decide, rfl, ((HR.out.kind 4).drewN _).at (a + 1)⟩⟩
      · have z : (((tx s)[a]'q1).toNat : Int) = 43 := toNat_of (HC.out.trans hz)
        subst HI
        clear hz
        go_wp2_with fail
        go_quiet (fail)
        go_wp2
        first | go_end0 | refine bodyPost_ret (results_none rfl _ _ _) rfl ?_
        exact ⟨(((But.refl [r] w).cell 2 _).drewN _).cell 1 _, .inl ⟨by decide, rfl, ((HR.out.kind 4).drewN _).at (a + 1)⟩⟩
      · have z : (((tx s)[a]'q1).toNat : Int) = 45 := toNat_of (HC.out.trans hz)
        subst HI
        clear hz
        go_wp2_with fail
        go_quiet (fail)
        go_wp2
        first | go_end0 | refine bodyPost_ret (results_none rfl _ _ _) rfl ?_
        exact ⟨(((But.refl [r] w).cell 2 _).drewN _).cell 1 _, .inl ⟨by decide, rfl, ((HR.out.kind 4).drewN _).at (a + 1)⟩⟩
      · have z : (((tx s)[a]'q1).toNat : Int) = 42 := toNat_of (HC.out.trans hz)
        subst HI
        clear hz
        go_wp2_with fail
        go_quiet (fail)
        go_wp2
        first | go_end0 | refine bodyPost_ret (results_none rfl _ _ _) rfl ?_
        exact ⟨(((But.refl [r] w).cell 2 _).drewN _).cell 1 _, .inl ⟨by decide, rfl, ((HR.out.kind 4).drewN _).at (a + 1)⟩⟩
      · have z : (((tx s)[a]'q1).toNat : Int) = 47 := toNat_of (HC.out.trans hz)
        subst HI
        clear hz
        go_wp2_with fail
        go_quiet (fail)
        go_wp2
        first | go_end0 | refine bodyPost_ret (results_none rfl _ _ _) rfl ?_
        exact ⟨(((But.refl [r] w).cell 2 _).drewN _).cell 1 _, .inl ⟨by decide, rfl, ((HR.out.kind 4).drewN _).at (a + 1)⟩⟩
      · have z : (((tx s)[a]'q1).toNat : Int) = 40 := toNat_of (HC.out.trans hz)
        subst HI
        clear hz
        go_wp2_with fail
        go_quiet (fail)
        go_wp2
        first | go_end0 | refine bodyPost_ret (results_none rfl _ _ _) rfl ?_
        exact ⟨(((But.refl [r] w).cell 2 _).drewN _).cell 1 _, .inl ⟨by decide, rfl, ((HR.out.kind 4).drewN _).at (a + 1)⟩⟩
      · have z : (((tx s)[a]'q1).toNat : Int) = 41 := toNat_of (HC.out.trans hz)
        subst HI
        clear hz
        go_wp2_with fail
        go_quiet (fail)
        go_wp2
        first | go_end0 | refine bodyPost_ret (results_none rfl _ _ _) rfl ?_
        exact ⟨(((But.refl [r] w).cell 2 _).drewN _).cell 1 _, .inl ⟨by decide, rfl, ((HR.out.kind 4).drewN _).at (a + 1)⟩⟩
      · have z : (((tx s)[a]'q1).toNat : Int) = 44 := toNat_of (HC.out.trans hz)
        subst HI
        clear hz
        go_wp2_with fail
        go_quiet (fail)
        go_wp2
        first | go_end0 | refine bodyPost_ret (results_none rfl _ _ _) rfl ?_
        exact ⟨(((But.refl [r] w).cell 2 _).drewN _).cell 1 _, .inl ⟨by decide, rfl, ((HR.out.kind 4).drewN _).at (a + 1)⟩⟩
    · obtain ⟨n1, n2, n3, n4, n5, n6, n7, n8, n9, n10⟩ := HZ
      rw [← HC.out] at n1 n2 n3 n4 n5 n6 n7 n8 n9 n10
      have z1 : ¬ (((tx s)[a]'q1).toNat : Int) = 61 := ne_nat n1
      have z2 : ¬ (((tx s)[a]'q1).toNat : Int) = 60 := ne_nat n2
      have z3 : ¬ (((tx s)[a]'q1).toNat : Int) = 62 := ne_nat n3
      have z4 : ¬ (((tx s)[a]'q1).toNat : Int) = 43 := ne_nat n4
      have z5 : ¬ (((tx s)[a]'q1).toNat : Int) = 45 := ne_nat n5
      have z6 : ¬ (((tx s)[a]'q1).toNat : Int) = 42 := ne_nat n6
      have z7 : ¬ (((tx s)[a]'q1).toNat : Int) = 47 := ne_nat n7
      have z8 : ¬ (((tx s)[a]'q1).toNat : Int) = 40 := ne_nat n8
      have z9 : ¬ (((tx s)[a]'q1).toNat : Int) = 41 := ne_nat n9
      have z10 : ¬ (((tx s)[a]'q1).toNat : Int) = 44 := ne_nat n10
      subst HI
      clear n1 n2 n3 n4 n5 n6 n7 n8 n9 n10
      go_wp2_with fail
      go_quiet (fail)
      go_wp2
      exact ⟨rfl, ((But.refl [r] w).cell 2 _).drewN _, .inr ⟨rfl, rfl⟩⟩
end Go.Proofs.YtfalcmbjjlgoaaaGreatDoor
