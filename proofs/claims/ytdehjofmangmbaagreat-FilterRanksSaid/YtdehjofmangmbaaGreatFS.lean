/- Walks: the law FilterRanks. -/
import Derived.Test.YtdehjofmangmbaaGreatFR
namespace Go.Proofs.YtdehjofmangmbaaGreat
open Go.RowKit Go.Shelf
theorem tx_of (s : ByteArray) : tx s.data.toList = s := by simp [tx]
theorem rk_facts {a b : Bs} : ∃ (r g : Nat) (s : Bool), (∀ w e w', RkEnd (rkS a b) w e w' → e = .returned (.tuple #[.int .i64 (r : Int), .int .i64 (g : Int), .bool s]) ∧ Below w.heap.size w w') ∧ (s = true → r ≤ 4 ∧ (r = 4 ↔ 0 < g)) ∧ r ≤ 4 ∧ (s = false → r = 0 ∧ g = 0) := by
  refine ⟨(fnd0 (rkS a b)).rank, (fnd0 (rkS a b)).gaps, (rkS a b).isSome, fun w e w' h => h, fun h => ?_, ?_, fun h => ?_⟩
  · cases hr : rkS a b with
    | none => rw [hr] at h; cases h
    | some f => exact ⟨(fnd_ok hr).rank, fnd_four hr⟩
  · cases hr : rkS a b with
    | none => simp [fnd0]
    | some f => exact (fnd_ok hr).rank
  · cases hr : rkS a b with
    | none => exact ⟨rfl, rfl⟩
    | some f => rw [hr] at h; cases h
set_option maxRecDepth 100000 in
set_option maxHeartbeats 4000000 in
theorem ranks_law (x y : Bs) (w : World) : Calls Tryz.prog 3 #[.string (tx x), .string (tx y)] w fun e w' => e = .returned (.bool true) ∧ Below w.heap.size w w' := by
  have HX := Lib.hid (fun W => lcut x W)
  have HY := Lib.hid (fun W => lcut y W)
  have ha : (x.take 60).length ≤ 60 := by rw [List.length_take]; omega
  have hb : (y.take 60).length ≤ 60 := by rw [List.length_take]; omega
  generalize x.take 60 = a at HX ha
  generalize y.take 60 = b at HY hb
  generalize tx x = TX at HX ⊢
  generalize tx y = TY at HY ⊢
  obtain ⟨r, g, s, hend, hs, hr4, hsn⟩ := @rk_facts a b
  obtain ⟨l0, h0⟩ := rk_self a
  obtain ⟨l1, h1⟩ := rk_x a
  have HRW := Lib.hid (fun W => (wrank a b (by omega) (by omega) W).mono (fun e W' h => hend W e W' h))
  have HRR := Lib.hid (fun W => (rrank a b (by omega) (by omega) W).mono (fun e W' h => hend W e W' h))
  have HSS := Lib.hid (fun W => wrank a a (by omega) (by omega) W)
  have HSX := Lib.hid (fun W => wrank (a ++ [32, 120]) a (by simp; omega) (by omega) W)
  rw [h0] at HSS
  rw [h1] at HSX
  have HFW := Lib.hid (fun W => wfold b (by omega) W)
  have HFR := Lib.hid (fun W => rfold b (by omega) W)
  have HWW := Lib.hid (fun W => wWords a (by omega) W)
  have HWR := Lib.hid (fun W => rWords a (by omega) W)
  unfold WrdEnd at HWW HWR
  have hwl : ((wds a).map List.flatten).length ≤ 1000000 := by rw [List.length_map]; have := wds_len a; have := clS_len a; omega
  rw [← List.length_map (f := List.flatten)] at HWW HWR
  generalize (wds a).map List.flatten = ws at HWW HWR hwl
  generalize tx (foldS b) = TF at HFW HFR
  have HAX : Hid (tx a ++ ⟨#[32, 120]⟩ = tx (a ++ [32, 120])) := Lib.hid (by unfold tx; apply ByteArray.ext; apply Array.ext'; simp)
  have hsz : (tx a).size ≤ 60 := by simpa [tx, ByteArray.size] using ha
  have hsz2 : (⟨#[32, 120]⟩ : ByteArray).size = 2 := rfl
  have HSX2 : Hid (∀ W, Calls Tryz.prog 8 #[.string (tx a ++ ⟨#[32, 120]⟩), .string (tx a)] W (RkEnd (some ⟨1, 0, l1⟩) W)) := Lib.hid (fun W => by rw [HAX.out]; exact HSX.out W)
  unfold RkEnd at HSS HSX2
  generalize tx a = TA at HX HRW HRR HSS HSX2 HWW HWR hsz
  generalize tx b = TB at HY HRW HRR HFW HFR
  have n1 : ((r : Int) != (r : Int)) = false := by simp
  have n2 : ((g : Int) != (g : Int)) = false := by simp
  have n3 : (TF.toList == TF.toList) = true := by simp
  have HNN := Lib.hid (And.intro hs (And.intro hr4 hsn))
  clear h0 h1 HSX HAX hend hs hsn ha hb
  go_enter Tryz.func3, Tryz.ntmps3
  go_wp2_with (first | (go_at_call 7; fail))
  refine (HX.out w).mono ?_
  rintro e w' ⟨rfl, rfl⟩
  go_wp2_with (first | (go_at_call 7; fail))
  refine (HY.out w).mono ?_
  rintro e w' ⟨rfl, rfl⟩
  go_wp2_with (first | (go_at_call 8; fail))
  refine (HRW.out w).mono ?_
  rintro e w1 ⟨rfl, hb1⟩
  have HB1 := Lib.hid hb1
  clear hb1
  go_wp2_with (first | (go_at_call 9; fail))
  refine (HRR.out w1).mono ?_
  rintro e w2 ⟨rfl, hb2⟩
  have HB2 := Lib.hid (HB1.out.trans (below_le hb2 HB1.out.size))
  clear hb2 HB1
  have n4 : (s != s) = false := by simp
  go_wp2_with (first | (go_at_call 10; fail))
  refine (HFW.out w2).mono ?_
  rintro e w3 ⟨rfl, hb3⟩
  have HB3 := Lib.hid (HB2.out.trans (below_le hb3 HB2.out.size))
  clear hb3 HB2
  go_wp2_with (first | (go_at_call 11; fail))
  refine (HFR.out w3).mono ?_
  rintro e w4 ⟨rfl, hb4⟩
  have HB4 := Lib.hid (HB3.out.trans (below_le hb4 HB3.out.size))
  clear hb4 HB3
  go_wp2_with (first | (go_at_call 13; fail))
  refine (HWW.out w4).mono ?_
  rintro e w5 ⟨v5, rfl, h5, hb5⟩
  have h5' := TxV.of_row h5 hwl
  have HV5 := Lib.hid h5'
  have HB5 := Lib.hid (HB4.out.trans (below_le hb5 HB4.out.size))
  obtain ⟨x5, c5, rfl, _⟩ := h5'.old
  clear hb5 HB4 h5 h5'
  go_wp2_with (first | (go_at_call 14; fail))
  refine (HWR.out w5).mono ?_
  rintro e w6 ⟨v6, rfl, h6, hb6⟩
  have h6' := TxV.of_row h6 hwl
  have HV6 := Lib.hid h6'
  have HV5' := Lib.hid (HV5.out.below hb6)
  have HB6 := Lib.hid (HB5.out.trans (below_le hb6 HB5.out.size))
  obtain ⟨x6, c6, rfl, _⟩ := h6'.old
  clear hb6 HB5 h6 h6' HV5
  go_wp2_with (first | (go_at_call 12; fail))
  refine (rsame _ _ _ _ w6 HV5'.out HV6.out).mono ?_
  rintro e w7 ⟨rfl, hb7⟩
  have HB7 := Lib.hid (HB6.out.trans (below_le hb7 HB6.out.size))
  rw [decide_eq_true rfl]
  clear hb7 HB6 HV5' HV6
  go_wp2_with (first | (go_at_call 15; fail))
  refine (wawake w7).mono ?_
  rintro e w8 ⟨rfl, hb8⟩
  have HB8 := Lib.hid (HB7.out.trans (below_le hb8 HB7.out.size))
  clear hb8 HB7
  go_wp2_with (first | (go_at_call 8; fail))
  refine (HSS.out w8).mono ?_
  rintro e w9 ⟨rfl, hb9⟩
  have HB9 := Lib.hid (HB8.out.trans (below_le hb9 HB8.out.size))
  have z1 : (fnd0 (some (⟨0, 0, l0⟩ : Fnd))).rank = 0 := rfl
  have z2 : (fnd0 (some (⟨0, 0, l0⟩ : Fnd))).gaps = 0 := rfl
  have z3 : (some (⟨0, 0, l0⟩ : Fnd)).isSome = true := rfl
  rw [z1, z2, z3]
  clear hb9 HB8 z1 z2 z3
  go_wp2_with (first | (go_at_call 8; fail))
  refine (HSX2.out w9).mono ?_
  rintro e wA ⟨rfl, hbA⟩
  have HBA := Lib.hid (HB9.out.trans (below_le hbA HB9.out.size))
  have z1 : (fnd0 (some (⟨1, 0, l1⟩ : Fnd))).rank = 1 := rfl
  have z2 : (fnd0 (some (⟨1, 0, l1⟩ : Fnd))).gaps = 0 := rfl
  have z3 : (some (⟨1, 0, l1⟩ : Fnd)).isSome = true := rfl
  rw [z1, z2, z3]
  clear hbA HB9 z1 z2 z3 n1 n2 n3 n4 HSX2 HSS HWW HWR HFW HFR HRW HRR HX HY
  cases s with
  | false =>
    clear HNN
    go_wp2
    go_ret
    exact ⟨rfl, HBA.out⟩
  | true =>
    obtain ⟨h1, h2⟩ := HNN.out.1 rfl
    have i1 : (0 : Int) ≤ (r : Int) := by omega
    have i2 : (r : Int) ≤ 4 := by omega
    have i3 : (0 : Int) ≤ (g : Int) := by omega
    by_cases e4 : r = 4
    · have i4 : ((r : Int) == 4) = true := by rw [beq_iff_eq]; omega
      have i5 : (0 : Int) < (g : Int) := by have := h2.1 e4; omega
      clear HNN h1 h2 e4 hr4
      go_wp2
      go_ret
      exact ⟨ret_bool (decide_eq_true (by omega)), HBA.out⟩
    · have i4 : ((r : Int) == 4) = false := by rw [beq_eq_false_iff_ne]; omega
      have i5 : ¬ (0 : Int) < (g : Int) := by
        intro q
        exact e4 (h2.2 (by omega))
      clear HNN h1 h2 e4 hr4
      go_wp2
      go_ret
      exact ⟨ret_bool (by rw [decide_eq_false (by omega)]; rfl), HBA.out⟩
theorem ranks_any (x y : ByteArray) (w : World) : Calls Tryz.prog 3 #[.string x, .string y] w fun e w' => e = .returned (.bool true) ∧ Below w.heap.size w w' := by
  have h := ranks_law x.data.toList y.data.toList w
  rw [tx_of, tx_of] at h
  exact h
end Go.Proofs.YtdehjofmangmbaaGreat
