/- A whole number's text is read again. -/
import Derived.Test.YtepjdnokkgmhoaaP3
import Derived.Test.YtepjdnokkgmhoaaA1
namespace Go.Proofs.Ytepjdnokkgmhoaa
open Go.RowKit Go.Shelf
theorem bt_nums (l : List Int) (i : Nat) (h : i < l.length) : bt (strOfNums l) i = (l.getD i 0).toNat % 256 := by
  have hs : i < (strOfNums l).size := by rw [strOfNums_size]; exact h
  unfold bt
  rw [dif_pos hs]
  have : (strOfNums l)[i] = UInt8.ofNat ((l.getD i 0).toNat) := by
    show (strOfNums l).data[i] = _
    simp [strOfNums, List.getD, h]
  rw [this]
  exact UInt8.toNat_ofNat'
theorem bt_dig (U K i : Nat) (h : i < K) : bt (strOfNums (digL U K)) i = 48 + U / 10 ^ (K - 1 - i) % 10 := by
  rw [bt_nums _ _ (by rw [digL_length]; exact h), digL_getD _ _ _ h]
  omega
theorem cnt_zero (U : Nat) (hU : U < 10 ^ 20) : U / 10 ^ cntD U = 0 := by
  have h1 := firstNot_le (fun j => decide (0 < U / 10 ^ (j + 1))) 20
  have h2 := firstNot_stop (fun j => decide (0 < U / 10 ^ (j + 1))) 20
  unfold cntD
  generalize firstNot (fun j => decide (0 < U / 10 ^ (j + 1))) 20 = f at h1 h2 ⊢
  rcases Nat.lt_or_ge f 20 with z | z
  · have := h2 z
    simp only [decide_eq_false_iff_not] at this
    exact Nat.eq_zero_of_not_pos this
  · exact Nat.div_eq_of_lt (Nat.lt_of_lt_of_le hU (Nat.pow_le_pow_right (by omega) (by omega)))
theorem cnt_15 (U : Nat) (hU : U < 10 ^ 15) : cntD U ≤ 15 := by
  have h2 := firstNot_all (fun j => decide (0 < U / 10 ^ (j + 1))) 20 14
  unfold cntD
  generalize firstNot (fun j => decide (0 < U / 10 ^ (j + 1))) 20 = f at h2 ⊢
  rcases Nat.lt_or_ge 14 f with z | z
  · have := h2 z
    rw [decide_eq_true_eq, Nat.div_eq_of_lt hU] at this
    omega
  · omega
theorem all_digL (U K : Nat) : allDig (strOfNums (digL U K)) = true := allDig_true fun j hj => by
  rw [digL_size] at hj
  rw [bt_dig U K j hj]
  simp only [isDig, Bool.and_eq_true, decide_eq_true_eq]
  omega
theorem numP_digL (U K : Nat) (h0 : U / 10 ^ K = 0) (k : Nat) (hk : k ≤ K) : numP (strOfNums (digL U K)) k = U / 10 ^ (K - k) := by
  induction k with
  | zero => rw [numP, Nat.sub_zero, h0]
  | succ k ih =>
    rw [numP, ih (by omega), bt_dig U K k (by omega), show K - k = (K - 1 - k) + 1 by omega, show K - (k + 1) = K - 1 - k by omega, Nat.pow_succ, ← Nat.div_div_eq_div_mul]
    generalize U / 10 ^ (K - 1 - k) = Z
    omega
theorem extract_nums (x : Int) (l : List Int) : (strOfNums (x :: l)).extract 1 (strOfNums (x :: l)).size = strOfNums l := by
  apply ByteArray.ext
  rw [strOfNums_size]
  apply Array.ext'
  simp [strOfNums, ByteArray.extract, ByteArray.copySlice]
  exact List.take_of_length_le (by simp)
theorem sgn_print (n : Int) (_ : n.natAbs < 10 ^ 15) : sgn (printS n) = decide (n < 0) ∧ unsg (printS n) = strOfNums (digL n.natAbs (cntD n.natAbs)) := by
  have hK := cntD_pos n.natAbs
  by_cases hn : n < 0
  · have e : printS n = strOfNums (45 :: digL n.natAbs (cntD n.natAbs)) := by unfold printS; rw [if_pos hn, List.singleton_append]
    have hs : sgn (printS n) = true := by
      rw [e]; unfold sgn
      rw [strOfNums_size, bt_nums _ _ (by simp)]
      simp
    refine ⟨by rw [hs]; simpa using hn, ?_⟩
    unfold unsg
    rw [hs, if_pos rfl, e]
    exact extract_nums _ _
  · have e : printS n = strOfNums (digL n.natAbs (cntD n.natAbs)) := by unfold printS; rw [if_neg hn, List.nil_append]
    have hs : sgn (printS n) = false := by
      rw [e]; unfold sgn
      rw [bt_dig _ _ _ (by omega)]
      generalize n.natAbs / 10 ^ (cntD n.natAbs - 1 - 0) = Z
      have : (48 + Z % 10 == 45) = false := by simp; omega
      rw [this, Bool.and_false]
    refine ⟨by rw [hs]; simpa using hn, ?_⟩
    unfold unsg
    rw [hs, e]; rfl
theorem beg_print (n : Int) (h : n.natAbs < 10 ^ 15) : begB (printS n) = true := by
  unfold begB
  rw [(sgn_print n h).2, all_digL, digL_size]
  simpa using cnt_15 _ h
theorem read_print (n : Int) (h : n.natAbs < 10 ^ 15) : readN (printS n) = n ∧ readE (printS n) = 0 := by
  have hK := cntD_pos n.natAbs
  have hok : readOk (printS n) = true := by
    unfold readOk
    rw [beg_print n h, (sgn_print n h).2, digL_size]
    simp; omega
  refine ⟨?_, by unfold readE; rw [hok]; rfl⟩
  unfold readN
  rw [hok, if_pos rfl, (sgn_print n h).1, (sgn_print n h).2, digL_size, numP_digL _ _ (cnt_zero _ (by omega)) _ (Nat.le_refl _), Nat.sub_self, Nat.pow_zero, Nat.div_one]
  by_cases hn : n < 0
  · rw [if_pos (by simpa using hn)]; omega
  · rw [if_neg (by simpa using hn)]; omega
theorem readN_small (s : ByteArray) : (readN s).natAbs < 10 ^ 15 := by
  unfold readN
  cases hok : readOk s
  · simp
  · have h : begB s = true := by unfold readOk at hok; rw [Bool.and_eq_true] at hok; exact hok.2
    unfold begB at h
    rw [Bool.and_eq_true, decide_eq_true_eq] at h
    have := numP_15 h.1 h.2 _ (Nat.le_refl _)
    rw [if_pos rfl]
    split <;> omega
theorem readE_zero {s : ByteArray} (h : readE s = 0) : begB s = true := by
  unfold readE at h
  cases hok : readOk s
  · rw [hok] at h; simp at h
  · unfold readOk at hok; rw [Bool.and_eq_true] at hok; exact hok.2
theorem readE_or (s : ByteArray) : readE s = 0 ∨ readE s = 7 := by unfold readE; split <;> simp
theorem tcut (s : ByteArray) (w : World) : Calls Try.prog 13 #[.string s] w fun e w' => ∃ t : ByteArray, e = .returned (.string t) ∧ t.size ≤ 40 ∧ w = w' := by
  by_cases h : s.size ≤ 40
  · have g : decide ((40 : Int) < (s.size : Int)) = false := by simp; omega
    have H := Lib.hid h
    clear h
    go_enter Try.func13, Try.ntmps13
    go_wp2
    go_ret
    exact ⟨s, rfl, H.out, rfl⟩
  · have g : decide ((40 : Int) < (s.size : Int)) = true := by simp; omega
    have h40 : 40 ≤ s.size := by omega
    go_enter Try.func13, Try.ntmps13
    go_wp2
    go_ret
    exact ⟨_, rfl, by rw [ByteArray.size_extract]; omega, rfl⟩
set_option maxRecDepth 100000 in
set_option maxHeartbeats 4000000 in
theorem reads_any (s : ByteArray) (n : Int) (hlo : -9223372036854775808 ≤ n) (hhi : n ≤ 9223372036854775807) (w : World) : Calls Try.prog 4 #[.string s, .int .i64 n] w fun e w' => e = .returned (.bool true) ∧ Below w.heap.size w w' := by
  have H16 := Lib.hid (fun W => tprint n hlo hhi W)
  have H19 := Lib.hid (fun W => rprint n hlo hhi W)
  have HRN := Lib.hid (fun h => read_print n h)
  have HSZ := Lib.hid (show (printS n).size < 2 ^ 62 by
    unfold printS
    rw [strOfNums_size, List.length_append, digL_length]
    have := cntD_le n.natAbs
    split <;> simp <;> omega)
  have H14S := Lib.hid (fun W => tread (printS n) HSZ.out W)
  have HLO := Lib.hid hlo
  have HHI := Lib.hid hhi
  have T := Lib.hid (fun (t : ByteArray) (h : t.size ≤ 40) => (⟨fun W => tread t (by omega) W, fun W => rread t (by omega) W⟩ : (∀ W, _) ∧ (∀ W, _)))
  have B := Lib.hid (fun (t : ByteArray) (h : t.size ≤ 40) => (⟨fun W => tbegins t (by omega) W, fun W => rbegins t (by omega) W⟩ : (∀ W, _) ∧ (∀ W, _)))
  have P := Lib.hid (fun (t : ByteArray) (W : World) => tprint (readN t) (by have := readN_small t; omega) (by have := readN_small t; omega) W)
  have BP := Lib.hid (fun (t : ByteArray) (W : World) => tbegins (printS (readN t)) (by
    unfold printS
    rw [strOfNums_size, List.length_append, digL_length]
    have := cntD_le (readN t).natAbs
    split <;> simp <;> omega) W)
  have BP2 := Lib.hid (fun t => beg_print (readN t) (readN_small t))
  obtain ⟨S, hS⟩ : ∃ S, printS n = S := ⟨_, rfl⟩
  have HS := Lib.hid hS
  rw [hS] at H16 H19 H14S HRN
  clear hS HSZ hlo hhi
  go_enter Try.func4, Try.ntmps4
  go_wp2_with (go_at_call 13; refine (tcut _ _).mono ?_; rintro e w' ⟨t, rfl, ht, rfl⟩)
  have HB0 : Hid (Below w.heap.size w w) := Lib.hid (Below.refl _ _)
  obtain ⟨t1, t2⟩ := T.out t ht
  obtain ⟨u1, u2⟩ := B.out t ht
  have p1 := P.out t
  have p2 := BP.out t
  rw [BP2.out t] at p2
  have hrange : (decide (n < -999999999999999) = true ∧ Hid (∀ W, Calls Try.prog 14 #[.string S] W fun e w' => e = .returned (.tuple #[.int .i64 (readN S), .int .i64 (readE S)]) ∧ W = w')) ∨ (decide (n < -999999999999999) = false ∧ decide (999999999999999 < n) = true ∧ Hid (∀ W, Calls Try.prog 14 #[.string S] W fun e w' => e = .returned (.tuple #[.int .i64 (readN S), .int .i64 (readE S)]) ∧ W = w')) ∨ (decide (n < -999999999999999) = false ∧ decide (999999999999999 < n) = false ∧ Hid (∀ W, Calls Try.prog 14 #[.string S] W fun e w' => e = .returned (.tuple #[.int .i64 n, .int .i64 0]) ∧ W = w')) := by
    by_cases h1 : n < -999999999999999
    · exact .inl ⟨by simpa using h1, H14S⟩
    · by_cases h2 : 999999999999999 < n
      · exact .inr (.inl ⟨by simpa using h1, by simpa using h2, H14S⟩)
      · refine .inr (.inr ⟨by simpa using h1, by simpa using h2, ?_⟩)
        obtain ⟨r1, r2⟩ := HRN.out (by omega)
        have q := H14S.out
        rw [r1, r2] at q
        exact Lib.hid q
  rcases readE_or t with hE | hE
  · have hb := readE_zero hE
    rw [hE] at t1 t2
    rw [hb] at u1 u2
    obtain ⟨X, hX⟩ : ∃ X, readN t = X := ⟨_, rfl⟩
    rw [hX] at t1 t2 p1 p2
    obtain ⟨SX, hSX⟩ : ∃ SX, printS X = SX := ⟨_, rfl⟩
    rw [hSX] at p1 p2
    have HT1 := Lib.hid t1
    have HT2 := Lib.hid t2
    have HB1 := Lib.hid u1
    have HB2 := Lib.hid u2
    have HP := Lib.hid p1
    have HBP := Lib.hid p2
    clear t1 t2 u1 u2 p1 p2 hE hb hX hSX ht
    rcases hrange with ⟨g1, HS14⟩ | ⟨g1, g2, HS14⟩ | ⟨g1, g2, HS14⟩
    all_goals
      refine (HT1.out _).mono ?_
      rintro e w' ⟨rfl, rfl⟩
      go_wp2_with (first | (go_at_call 15; (with_reducible refine (HT2.out _).mono ?_); rintro e w' ⟨rfl, rfl⟩) | (go_at_call 14; (with_reducible refine (HS14.out _).mono ?_); rintro e w' ⟨rfl, rfl⟩) | (go_at_call 16; first | ((with_reducible refine (H16.out _).mono ?_); rintro e wa ⟨rfl, hBa⟩; have HB0 := Lib.hid (HB0.out.trans (hBa.mono HB0.out.size)); clear hBa) | ((with_reducible refine (HP.out _).mono ?_); rintro e wa ⟨rfl, hBa⟩; have HB0 := Lib.hid (HB0.out.trans (hBa.mono HB0.out.size)); clear hBa)) | (go_at_call 17; first | ((with_reducible refine (HB1.out _).mono ?_); rintro e w' ⟨rfl, rfl⟩) | ((with_reducible refine (HBP.out _).mono ?_); rintro e w' ⟨rfl, rfl⟩)) | (go_at_call 18; (with_reducible refine (HB2.out _).mono ?_); rintro e w' ⟨rfl, rfl⟩) | (go_at_call 19; (with_reducible refine (H19.out _).mono ?_); rintro e wa ⟨rfl, hBa⟩; have HB0 := Lib.hid (HB0.out.trans (hBa.mono HB0.out.size)); clear hBa) | (go_at_call 12; refine (tawake _).mono ?_; rintro e wa ⟨rfl, hBa⟩; have HB0 := Lib.hid (HB0.out.trans (hBa.mono HB0.out.size)); clear hBa))
      go_ret
      exact ⟨rfl, HB0.out⟩
  · obtain ⟨b, hb⟩ : ∃ b, begB t = b := ⟨_, rfl⟩
    rw [hE] at t1 t2
    rw [hb] at u1 u2
    obtain ⟨X, hX⟩ : ∃ X, readN t = X := ⟨_, rfl⟩
    rw [hX] at t1 t2 p1 p2
    obtain ⟨SX, hSX⟩ : ∃ SX, printS X = SX := ⟨_, rfl⟩
    rw [hSX] at p1 p2
    have HT1 := Lib.hid t1
    have HT2 := Lib.hid t2
    have HB1 := Lib.hid u1
    have HB2 := Lib.hid u2
    have HP := Lib.hid p1
    have HBP := Lib.hid p2
    clear t1 t2 u1 u2 p1 p2 hE hb hX hSX ht
    cases b
    all_goals
      rcases hrange with ⟨g1, HS14⟩ | ⟨g1, g2, HS14⟩ | ⟨g1, g2, HS14⟩
      all_goals
        refine (HT1.out _).mono ?_
        rintro e w' ⟨rfl, rfl⟩
        go_wp2_with (first | (go_at_call 15; (with_reducible refine (HT2.out _).mono ?_); rintro e w' ⟨rfl, rfl⟩) | (go_at_call 14; (with_reducible refine (HS14.out _).mono ?_); rintro e w' ⟨rfl, rfl⟩) | (go_at_call 16; first | ((with_reducible refine (H16.out _).mono ?_); rintro e wa ⟨rfl, hBa⟩; have HB0 := Lib.hid (HB0.out.trans (hBa.mono HB0.out.size)); clear hBa) | ((with_reducible refine (HP.out _).mono ?_); rintro e wa ⟨rfl, hBa⟩; have HB0 := Lib.hid (HB0.out.trans (hBa.mono HB0.out.size)); clear hBa)) | (go_at_call 17; first | ((with_reducible refine (HB1.out _).mono ?_); rintro e w' ⟨rfl, rfl⟩) | ((with_reducible refine (HBP.out _).mono ?_); rintro e w' ⟨rfl, rfl⟩)) | (go_at_call 18; (with_reducible refine (HB2.out _).mono ?_); rintro e w' ⟨rfl, rfl⟩) | (go_at_call 19; (with_reducible refine (H19.out _).mono ?_); rintro e wa ⟨rfl, hBa⟩; have HB0 := Lib.hid (HB0.out.trans (hBa.mono HB0.out.size)); clear hBa) | (go_at_call 12; refine (tawake _).mono ?_; rintro e wa ⟨rfl, hBa⟩; have HB0 := Lib.hid (HB0.out.trans (hBa.mono HB0.out.size)); clear hBa))
        go_ret
        exact ⟨rfl, HB0.out⟩
end Go.Proofs.Ytepjdnokkgmhoaa
