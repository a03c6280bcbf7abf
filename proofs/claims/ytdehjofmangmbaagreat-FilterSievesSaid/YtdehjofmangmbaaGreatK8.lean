/- Walks: in, Mark, Wide, Of of the reference; Mark of layer 3's. -/
import Derived.Test.YtdehjofmangmbaaGreatK7
namespace Go.Proofs.YtdehjofmangmbaaGreat
open Go.RowKit Go.Shelf
theorem RngAt.get {w : World} {b : Nat} {l : List Int} (h : RngAt w b l) (j : Nat) (hj : j < l.length) : w.cell? ⟨b, j, none⟩ = some (.int .i32 (l.getD j 0)) := by
  unfold RngAt i32s at h
  have : ((l.map (Value.int .i32)).toArray)[j]? = some (.int .i32 (l.getD j 0)) := by
    rw [List.getElem?_toArray, List.getElem?_map, List.getElem?_eq_getElem hj, List.getD_eq_getElem?_getD, List.getElem?_eq_getElem hj]; rfl
  simpa [World.cell?, h] using this
set_option maxHeartbeats 1000000 in
theorem rin (b N : Nat) (L : List Int) (hL : L.length = 2 * N) (hN : N ≤ 1000) (r : Int) (w : World) (h : RngAt w b L) : Calls Tryz.prog 96 #[.slice (some ⟨b, 0, none⟩) N N, .int .i32 r] w fun e w' => e = .returned (.bool (inR L r)) ∧ w = w' := by
  have HB := Lib.hid h
  have HL := Lib.hid hL
  clear h hL
  go_enter Tryz.func96, Tryz.ntmps96
  go_wp2
  go_loopw [5] (fun v wr => ∃ j : Nat, v = .int .i64 (j : Int) ∧ j ≤ N ∧ Hid (∀ q, q < j → ¬ (L.getD (2 * q) 0 ≤ r ∧ r ≤ L.getD (2 * q + 1) 0)) ∧ w = wr) (fun v _ => N - (intOf v).toNat)
  case atStart => exact ⟨0, rfl, by omega, Lib.hid (fun q h => by omega), rfl⟩
  case round =>
    obtain ⟨j, rfl, hj, HT, rfl⟩ := hrel
    by_cases hlt : j < N
    · have c1 := HB.out.get (2 * j) (by have := HL.out; omega)
      have c2 := HB.out.get (2 * j + 1) (by have := HL.out; omega)
      rw [Nat.mul_comm 2 j] at c1 c2
      obtain ⟨A, hA⟩ : ∃ A, A = L.getD (2 * j) 0 := ⟨_, rfl⟩
      obtain ⟨B, hB⟩ : ∃ A, A = L.getD (2 * j + 1) 0 := ⟨_, rfl⟩
      have HAB := Lib.hid (And.intro hA hB)
      rw [Nat.mul_comm 2 j] at hA hB
      rw [← hA] at c1
      rw [← hB] at c2
      clear hA hB
      have i1 : (0 : Int) ≤ (j : Int) := by omega
      have i2 : (j : Int) < (N : Int) := by omega
      by_cases h1 : A ≤ r
      · by_cases h2 : r ≤ B
        · have HR := Lib.hid (inR_some (L := L) (r := r) j (by have := HL.out; omega) (by rw [← HAB.out.1, ← HAB.out.2]; exact ⟨h1, h2⟩))
          go_wp2
          go_ret
          exact ⟨by rw [HR.out]; rfl, rfl⟩
        · have HT2 : Hid (∀ q, q < j + 1 → ¬ (L.getD (2 * q) 0 ≤ r ∧ r ≤ L.getD (2 * q + 1) 0)) := Lib.hid (fun q hq => by
            by_cases e : q = j
            · rw [e, ← HAB.out.1, ← HAB.out.2]; omega
            · exact HT.out q (by omega))
          go_wp2
          go_roundw
          case rel => exact ⟨j + 1, by go_num, by omega, HT2, by trivial⟩
          case measure => simp [intOf]; omega
      · have HT2 : Hid (∀ q, q < j + 1 → ¬ (L.getD (2 * q) 0 ≤ r ∧ r ≤ L.getD (2 * q + 1) 0)) := Lib.hid (fun q hq => by
          by_cases e : q = j
          · rw [e, ← HAB.out.1, ← HAB.out.2]; omega
          · exact HT.out q (by omega))
        go_wp2
        go_roundw
        case rel => exact ⟨j + 1, by go_num, by omega, HT2, by trivial⟩
        case measure => simp [intOf]; omega
    · have i2 : ¬ (j : Int) < (N : Int) := by omega
      have HR := Lib.hid (inR_none (L := L) (r := r) (fun q hq => HT.out q (by have := HL.out; omega)))
      go_wp2
      go_ret
      exact ⟨by rw [HR.out]; rfl, rfl⟩
theorem rMark (r : Int) (w : World) : Calls Tryz.prog 68 #[.int .i32 r] w fun e w' => e = .returned (.bool (mrk r)) ∧ Below w.heap.size w w' := by
  have HB := Lib.hid ((Below.refl w.heap.size w).alloc (Nat.le_refl _) (.cells (i32s marksL) 139))
  have HI := Lib.hid (rin w.heap.size 28 marksL (by decide) (by omega) r (w.alloc (.cells (i32s marksL) 139)) (heap_alloc_new _ _))
  have HV := Lib.hid (show inR marksL r = mrk r from rfl)
  rw [HV.out] at HI
  obtain ⟨W, hW⟩ : ∃ W, W = w.alloc (.cells (i32s marksL) 139) := ⟨_, rfl⟩
  have HM : Hid (Calls Tryz.prog 97 #[] w fun e w' => e = .returned (.slice (some ⟨w.heap.size, 0, none⟩) 28 28) ∧ W = w') := Lib.hid ((rMarks w).mono (fun e w' ⟨a, b⟩ => ⟨a, by rw [hW, b]⟩))
  rw [← hW] at HB HI
  clear hW HV
  go_enter Tryz.func68, Tryz.ntmps68
  go_wp2_with (first | (go_at_call 97; (with_reducible refine HM.out.mono ?_); rintro e w' ⟨rfl, rfl⟩) | (go_at_call 96; (with_reducible refine HI.out.mono ?_); rintro e w' ⟨rfl, rfl⟩))
  go_ret
  exact ⟨rfl, HB.out⟩
theorem rWide (r : Int) (w : World) : Calls Tryz.prog 69 #[.int .i32 r] w fun e w' => e = .returned (.bool (!mrk r && wid r)) ∧ Below w.heap.size w w' := by
  have HMK := Lib.hid (rMark r w)
  have HI := Lib.hid (fun W : World => rin W.heap.size 51 widesL (by decide) (by omega) r (W.alloc (.cells (i32s widesL) 139)) (heap_alloc_new _ _))
  have HV := Lib.hid (show inR widesL r = wid r from rfl)
  rw [HV.out] at HI
  obtain ⟨M, hM⟩ : ∃ M, M = mrk r := ⟨_, rfl⟩
  obtain ⟨D, hD⟩ : ∃ M, M = wid r := ⟨_, rfl⟩
  rw [← hM] at HMK ⊢
  rw [← hD] at HI ⊢
  clear hM hD HV
  cases M
  · go_enter Tryz.func69, Tryz.ntmps69
    go_wp2_with (first | (go_at_call 68; fail))
    go_at_call 68
    refine HMK.out.mono ?_
    rintro e w1 ⟨rfl, hb1⟩
    have HB1 := Lib.hid hb1
    have HB2 := Lib.hid (hb1.alloc hb1.size (.cells (i32s widesL) 139))
    have HI1 := Lib.hid (HI.out w1)
    obtain ⟨W, hW⟩ : ∃ W, W = w1.alloc (.cells (i32s widesL) 139) := ⟨_, rfl⟩
    have HM : Hid (Calls Tryz.prog 98 #[] w1 fun e w' => e = .returned (.slice (some ⟨w1.heap.size, 0, none⟩) 51 51) ∧ W = w') := Lib.hid ((rWides w1).mono (fun e w' ⟨a, b⟩ => ⟨a, by rw [hW, b]⟩))
    rw [← hW] at HI1 HB2
    clear hW hb1
    go_wp2_with (first | (go_at_call 98; (with_reducible refine HM.out.mono ?_); rintro e w' ⟨rfl, rfl⟩) | (go_at_call 96; (with_reducible refine HI1.out.mono ?_); rintro e w' ⟨rfl, rfl⟩))
    go_ret
    exact ⟨by simp, HB2.out⟩
  · go_enter Tryz.func69, Tryz.ntmps69
    go_wp2_with (first | (go_at_call 68; fail))
    go_at_call 68
    refine HMK.out.mono ?_
    rintro e w1 ⟨rfl, hb1⟩
    have HB1 := Lib.hid hb1
    clear hb1
    go_wp2
    go_ret
    exact ⟨by simp, HB1.out⟩
theorem rOf (r : Int) (w : World) : Calls Tryz.prog 44 #[.int .i32 r] w fun e w' => e = .returned (.int .i64 (ofW r)) ∧ Below w.heap.size w w' := by
  have HM := Lib.hid (fun W => rMark r W)
  have HWD := Lib.hid (fun W => rWide r W)
  have HS := Lib.hid (rIs2 r)
  have HC := Lib.hid (rCtl r)
  have HV := Lib.hid (show ofW r = if isR r = false ∨ ctl r = true ∨ mrk r = true then 0 else if wid r = true then 2 else 1 from rfl)
  obtain ⟨V, hV⟩ : ∃ V, V = ofW r := ⟨_, rfl⟩
  obtain ⟨I, hI⟩ : ∃ V, V = isR r := ⟨_, rfl⟩
  obtain ⟨C, hC⟩ : ∃ V, V = ctl r := ⟨_, rfl⟩
  obtain ⟨M, hM⟩ : ∃ V, V = mrk r := ⟨_, rfl⟩
  obtain ⟨D, hD⟩ : ∃ V, V = wid r := ⟨_, rfl⟩
  rw [← hV, ← hI, ← hC, ← hM, ← hD] at HV
  rw [← hV]
  rw [← hI] at HS
  rw [← hC] at HC
  rw [← hM] at HM
  rw [← hM, ← hD] at HWD
  clear hV hI hC hM hD
  cases I
  · have HR : Hid (V = 0) := Lib.hid (by rw [HV.out]; simp)
    clear HV
    go_enter Tryz.func44, Tryz.ntmps44
    go_wp2_with (first | (go_at_call 66; (with_reducible refine (HS.out _).mono ?_); rintro e w' ⟨rfl, rfl⟩))
    go_ret
    exact ⟨by rw [HR.out]; rfl, Below.refl _ _⟩
  · cases C
    · cases M
      · have HR : Hid (V = if D = true then 2 else 1) := Lib.hid (by rw [HV.out]; simp)
        clear HV
        go_enter Tryz.func44, Tryz.ntmps44
        go_wp2_with (first | (go_at_call 66; (with_reducible refine (HS.out _).mono ?_); rintro e w' ⟨rfl, rfl⟩) | (go_at_call 67; (with_reducible refine (HC.out _).mono ?_); rintro e w' ⟨rfl, rfl⟩) | (go_at_call 68; fail))
        go_at_call 68
        refine (HM.out _).mono ?_
        rintro e w1 ⟨rfl, hb1⟩
        have HB1 := Lib.hid hb1
        clear hb1
        go_wp2_with (first | (go_at_call 69; fail))
        go_at_call 69
        refine (HWD.out _).mono ?_
        rintro e w2 ⟨rfl, hb2⟩
        have HB2 := Lib.hid (HB1.out.trans (below_le hb2 HB1.out.size))
        clear hb2
        cases D
        · go_wp2
          go_ret
          exact ⟨by rw [HR.out]; rfl, HB2.out⟩
        · go_wp2
          go_ret
          exact ⟨by rw [HR.out]; rfl, HB2.out⟩
      · have HR : Hid (V = 0) := Lib.hid (by rw [HV.out]; simp)
        clear HV
        go_enter Tryz.func44, Tryz.ntmps44
        go_wp2_with (first | (go_at_call 66; (with_reducible refine (HS.out _).mono ?_); rintro e w' ⟨rfl, rfl⟩) | (go_at_call 67; (with_reducible refine (HC.out _).mono ?_); rintro e w' ⟨rfl, rfl⟩) | (go_at_call 68; fail))
        go_at_call 68
        refine (HM.out _).mono ?_
        rintro e w1 ⟨rfl, hb1⟩
        have HB1 := Lib.hid hb1
        clear hb1
        go_wp2
        go_ret
        exact ⟨by rw [HR.out]; rfl, HB1.out⟩
    · have HR : Hid (V = 0) := Lib.hid (by rw [HV.out]; simp)
      clear HV
      go_enter Tryz.func44, Tryz.ntmps44
      go_wp2_with (first | (go_at_call 66; (with_reducible refine (HS.out _).mono ?_); rintro e w' ⟨rfl, rfl⟩) | (go_at_call 67; (with_reducible refine (HC.out _).mono ?_); rintro e w' ⟨rfl, rfl⟩))
      go_ret
      exact ⟨by rw [HR.out]; rfl, Below.refl _ _⟩
theorem rMark3 (r : Int) (w : World) : Calls Tryz.prog 45 #[.int .i32 r] w fun e w' => e = .returned (.bool (isMk r)) ∧ Below w.heap.size w w' := by
  have HO := Lib.hid (rOf r w)
  have HS := Lib.hid (rIs r)
  have HC := Lib.hid (rCtl3 r)
  have HV := Lib.hid (show isMk r = (decide (ofW r = 0) && !ctl r && isR r) from rfl)
  obtain ⟨V, hV⟩ : ∃ V, V = isMk r := ⟨_, rfl⟩
  obtain ⟨O, hO⟩ : ∃ V, V = ofW r := ⟨_, rfl⟩
  obtain ⟨I, hI⟩ : ∃ V, V = isR r := ⟨_, rfl⟩
  obtain ⟨C, hC⟩ : ∃ V, V = ctl r := ⟨_, rfl⟩
  rw [← hV, ← hO, ← hI, ← hC] at HV
  rw [← hV]
  rw [← hO] at HO
  rw [← hI] at HS
  rw [← hC] at HC
  clear hV hO hI hC
  by_cases h0 : O = 0
  · subst h0
    cases I
    · have HR : Hid (V = false) := Lib.hid (by rw [HV.out]; simp)
      go_enter Tryz.func45, Tryz.ntmps45
      go_wp2_with (first | (go_at_call 44; fail))
      go_at_call 44
      refine HO.out.mono ?_
      rintro e w1 ⟨rfl, hb1⟩
      have HB1 := Lib.hid hb1
      clear hb1 HV
      go_wp2_with (first | (go_at_call 64; (with_reducible refine (HS.out _).mono ?_); rintro e w' ⟨rfl, rfl⟩))
      go_ret
      exact ⟨ret_bool HR.out.symm, HB1.out⟩
    · have HR : Hid (V = !C) := Lib.hid (by rw [HV.out]; simp)
      go_enter Tryz.func45, Tryz.ntmps45
      go_wp2_with (first | (go_at_call 44; fail))
      go_at_call 44
      refine HO.out.mono ?_
      rintro e w1 ⟨rfl, hb1⟩
      have HB1 := Lib.hid hb1
      clear hb1 HV
      go_wp2_with (first | (go_at_call 64; (with_reducible refine (HS.out _).mono ?_); rintro e w' ⟨rfl, rfl⟩) | (go_at_call 70; (with_reducible refine (HC.out _).mono ?_); rintro e w' ⟨rfl, rfl⟩))
      go_ret
      exact ⟨ret_bool HR.out.symm, HB1.out⟩
  · have HR : Hid (V = false) := Lib.hid (by rw [HV.out, decide_eq_false h0]; simp)
    have hq : (O == 0) = false := by rw [beq_eq_false_iff_ne]; exact h0
    go_enter Tryz.func45, Tryz.ntmps45
    go_wp2_with (first | (go_at_call 44; fail))
    go_at_call 44
    refine HO.out.mono ?_
    rintro e w1 ⟨rfl, hb1⟩
    have HB1 := Lib.hid hb1
    clear hb1 HV
    go_wp2
    go_ret
    exact ⟨ret_bool HR.out.symm, HB1.out⟩
end Go.Proofs.YtdehjofmangmbaaGreat
