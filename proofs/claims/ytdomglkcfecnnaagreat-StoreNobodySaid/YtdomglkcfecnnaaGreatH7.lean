/- Walks: Mark, Of, isBase, isMark. -/
import Derived.Test.YtdomglkcfecnnaaGreatH6
namespace Go.Proofs.YtdomglkcfecnnaaGreat
open Go.RowKit Go.Shelf
def mrk (r : Int) : Bool := inR marksL r
def wid (r : Int) : Bool := inR widesL r
/-- How many columns a rune takes. -/
def ofW (r : Int) : Int := if isR r = false ∨ ctl r = true ∨ mrk r = true then 0 else if wid r = true then 2 else 1
/-- A rune that marks the one before it. -/
def isMk (r : Int) : Bool := decide (ofW r = 0) && !ctl r && isR r
theorem wMark (r : Int) (w : World) : Calls Tryz.prog 153 #[.int .i32 r] w fun e w' => e = .returned (.bool (mrk r)) ∧ Below w.heap.size w w' := by
  have HW := Lib.hid (fun p q w h1 h2 => wwithin r p q marksL w (by decide) marks_rise h1 h2)
  go_enter Tryz.func153, Tryz.ntmps153
  go_wp2_with (first | (go_at_call 158; fail))
  go_at_call 158
  refine (wMarks _).mono ?_
  rintro e w1 ⟨p, q, rfl, h1, h2, h3, h4, hb⟩
  have HB := Lib.hid hb
  have HC := Lib.hid (HW.out p q w1 h1 h2)
  clear h1 h2 h3 h4 hb
  go_wp2_with (first | (go_at_call 154; fail))
  go_at_call 154
  refine HC.out.mono ?_
  rintro e w2 ⟨rfl, hb2⟩
  have HB2 := Lib.hid (HB.out.trans (below_le hb2 HB.out.size))
  clear hb2
  go_wp2
  go_ret
  exact ⟨rfl, HB2.out⟩
theorem wOf (r : Int) (w : World) : Calls Tryz.prog 142 #[.int .i32 r] w fun e w' => e = .returned (.int .i64 (ofW r)) ∧ Below w.heap.size w w' := by
  have HW := Lib.hid (fun p q w h1 h2 => wwithin r p q widesL w (by decide) wides_rise h1 h2)
  have HM := Lib.hid (wMark r)
  have HS := Lib.hid (wis r)
  have HC := Lib.hid (wctl r)
  have HV := Lib.hid (show ofW r = if isR r = false ∨ ctl r = true ∨ mrk r = true then 0 else if wid r = true then 2 else 1 from rfl)
  obtain ⟨V, hV⟩ : ∃ V, V = ofW r := ⟨_, rfl⟩
  obtain ⟨I, hI⟩ : ∃ V, V = isR r := ⟨_, rfl⟩
  obtain ⟨C, hC⟩ : ∃ V, V = ctl r := ⟨_, rfl⟩
  obtain ⟨M, hM⟩ : ∃ V, V = mrk r := ⟨_, rfl⟩
  obtain ⟨D, hD⟩ : ∃ V, V = wid r := ⟨_, rfl⟩
  have HD := Lib.hid (show inR widesL r = D from hD.symm)
  rw [HD.out] at HW
  rw [← hV, ← hI, ← hC, ← hM, ← hD] at HV
  rw [← hV]
  rw [← hI] at HS
  rw [← hC] at HC
  rw [← hM] at HM
  clear hV hI hC hM hD HD
  cases I
  · have HR : Hid (V = 0) := Lib.hid (by rw [HV.out]; simp)
    clear HV
    go_enter Tryz.func142, Tryz.ntmps142
    go_wp2_with (first | (go_at_call 152; (with_reducible refine (HS.out _).mono ?_); rintro e w' ⟨rfl, rfl⟩))
    go_ret
    exact ⟨by rw [HR.out]; rfl, Below.refl _ _⟩
  · cases C
    · cases M
      · have HR : Hid (V = if D = true then 2 else 1) := Lib.hid (by rw [HV.out]; simp)
        clear HV
        go_enter Tryz.func142, Tryz.ntmps142
        go_wp2_with (first | (go_at_call 152; (with_reducible refine (HS.out _).mono ?_); rintro e w' ⟨rfl, rfl⟩) | (go_at_call 96; (with_reducible refine (HC.out _).mono ?_); rintro e w' ⟨rfl, rfl⟩) | (go_at_call 153; fail))
        go_at_call 153
        refine (HM.out _).mono ?_
        rintro e w1 ⟨rfl, hb1⟩
        have HB1 := Lib.hid hb1
        clear hb1
        go_wp2_with (first | (go_at_call 155; fail))
        go_at_call 155
        refine (wWides _).mono ?_
        rintro e w2 ⟨p, q, rfl, h1, h2, h3, h4, hb⟩
        have HB := Lib.hid (HB1.out.trans (below_le hb HB1.out.size))
        have HC7 := Lib.hid (HW.out p q w2 h1 h2)
        clear h1 h2 h3 h4 hb
        go_wp2_with (first | (go_at_call 154; fail))
        go_at_call 154
        refine HC7.out.mono ?_
        rintro e w3 ⟨rfl, hb3⟩
        have HB3 := Lib.hid (HB.out.trans (below_le hb3 HB.out.size))
        clear hb3
        cases D
        · go_wp2
          go_ret
          exact ⟨by rw [HR.out]; rfl, HB3.out⟩
        · go_wp2
          go_ret
          exact ⟨by rw [HR.out]; rfl, HB3.out⟩
      · have HR : Hid (V = 0) := Lib.hid (by rw [HV.out]; simp)
        clear HV
        go_enter Tryz.func142, Tryz.ntmps142
        go_wp2_with (first | (go_at_call 152; (with_reducible refine (HS.out _).mono ?_); rintro e w' ⟨rfl, rfl⟩) | (go_at_call 96; (with_reducible refine (HC.out _).mono ?_); rintro e w' ⟨rfl, rfl⟩) | (go_at_call 153; fail))
        go_at_call 153
        refine (HM.out _).mono ?_
        rintro e w1 ⟨rfl, hb1⟩
        have HB1 := Lib.hid hb1
        clear hb1
        go_wp2
        go_ret
        exact ⟨by rw [HR.out]; rfl, HB1.out⟩
    · have HR : Hid (V = 0) := Lib.hid (by rw [HV.out]; simp)
      clear HV
      go_enter Tryz.func142, Tryz.ntmps142
      go_wp2_with (first | (go_at_call 152; (with_reducible refine (HS.out _).mono ?_); rintro e w' ⟨rfl, rfl⟩) | (go_at_call 96; (with_reducible refine (HC.out _).mono ?_); rintro e w' ⟨rfl, rfl⟩))
      go_ret
      exact ⟨by rw [HR.out]; rfl, Below.refl _ _⟩
theorem wisBase (r : Int) (w : World) : Calls Tryz.prog 126 #[.int .i32 r] w fun e w' => e = .returned (.bool (decide (0 < ofW r))) ∧ Below w.heap.size w w' := by
  go_enter Tryz.func126, Tryz.ntmps126
  go_wp2_with (first | (go_at_call 142; fail))
  go_at_call 142
  refine (wOf r _).mono ?_
  rintro e w1 ⟨rfl, hb⟩
  have HB := Lib.hid hb
  clear hb
  go_wp2
  go_ret
  exact ⟨rfl, HB.out⟩
theorem wisMark (r : Int) (w : World) : Calls Tryz.prog 128 #[.int .i32 r] w fun e w' => e = .returned (.bool (isMk r)) ∧ Below w.heap.size w w' := by
  have HO := Lib.hid (wOf r)
  have HC := Lib.hid (wctl r)
  have HV := Lib.hid (show isMk r = (decide (ofW r = 0) && !ctl r && isR r) from rfl)
  obtain ⟨V, hV⟩ : ∃ V, V = isMk r := ⟨_, rfl⟩
  obtain ⟨O, hO⟩ : ∃ V, V = ofW r := ⟨_, rfl⟩
  obtain ⟨C, hC⟩ : ∃ V, V = ctl r := ⟨_, rfl⟩
  rw [← hV, ← hO, ← hC] at HV
  rw [← hV]
  rw [← hO] at HO
  rw [← hC] at HC
  clear hV hO hC
  by_cases h0 : O = 0
  · subst h0
    cases C
    · have HR : Hid (V = isR r) := Lib.hid (by rw [HV.out]; simp)
      clear HV
      by_cases h1 : 0 ≤ r
      · by_cases h2 : r ≤ 1114111
        · by_cases h3 : r < 55296
          · have HQ := Lib.hid (show isR r = true by unfold isR; rw [decide_eq_true_iff]; omega)
            go_enter Tryz.func128, Tryz.ntmps128
            go_wp2_with (first | (go_at_call 96; (with_reducible refine (HC.out _).mono ?_); rintro e w' ⟨rfl, rfl⟩) | (go_at_call 142; fail))
            go_at_call 142
            refine (HO.out _).mono ?_
            rintro e w1 ⟨rfl, hb⟩
            have HB := Lib.hid hb
            clear hb
            go_wp2_with (first | (go_at_call 96; (with_reducible refine (HC.out _).mono ?_); rintro e w' ⟨rfl, rfl⟩))
            go_ret
            exact ⟨by rw [HR.out, HQ.out]; rfl, HB.out⟩
          · have HQ := Lib.hid (show isR r = (decide (r < 55296) || decide (57343 < r)) by unfold isR; rw [← Bool.decide_or, decide_eq_decide]; omega)
            go_enter Tryz.func128, Tryz.ntmps128
            go_wp2_with (first | (go_at_call 142; fail))
            go_at_call 142
            refine (HO.out _).mono ?_
            rintro e w1 ⟨rfl, hb⟩
            have HB := Lib.hid hb
            clear hb
            go_wp2_with (first | (go_at_call 96; (with_reducible refine (HC.out _).mono ?_); rintro e w' ⟨rfl, rfl⟩))
            go_ret
            exact ⟨by rw [HR.out, HQ.out]; rfl, HB.out⟩
        · have HQ := Lib.hid (show isR r = false by unfold isR; rw [decide_eq_false_iff_not]; omega)
          go_enter Tryz.func128, Tryz.ntmps128
          go_wp2_with (first | (go_at_call 142; fail))
          go_at_call 142
          refine (HO.out _).mono ?_
          rintro e w1 ⟨rfl, hb⟩
          have HB := Lib.hid hb
          clear hb
          go_wp2_with (first | (go_at_call 96; (with_reducible refine (HC.out _).mono ?_); rintro e w' ⟨rfl, rfl⟩))
          go_ret
          exact ⟨by rw [HR.out, HQ.out]; rfl, HB.out⟩
      · have HQ := Lib.hid (show isR r = false by unfold isR; rw [decide_eq_false_iff_not]; omega)
        go_enter Tryz.func128, Tryz.ntmps128
        go_wp2_with (first | (go_at_call 142; fail))
        go_at_call 142
        refine (HO.out _).mono ?_
        rintro e w1 ⟨rfl, hb⟩
        have HB := Lib.hid hb
        clear hb
        go_wp2_with (first | (go_at_call 96; (with_reducible refine (HC.out _).mono ?_); rintro e w' ⟨rfl, rfl⟩))
        go_ret
        exact ⟨by rw [HR.out, HQ.out]; rfl, HB.out⟩
    · have HR : Hid (V = false) := Lib.hid (by rw [HV.out]; simp)
      clear HV
      go_enter Tryz.func128, Tryz.ntmps128
      go_wp2_with (first | (go_at_call 142; fail))
      go_at_call 142
      refine (HO.out _).mono ?_
      rintro e w1 ⟨rfl, hb⟩
      have HB := Lib.hid hb
      clear hb
      go_wp2_with (first | (go_at_call 96; (with_reducible refine (HC.out _).mono ?_); rintro e w' ⟨rfl, rfl⟩))
      go_ret
      exact ⟨by rw [HR.out]; rfl, HB.out⟩
  · have HR : Hid (V = false) := Lib.hid (by rw [HV.out, decide_eq_false h0]; rfl)
    clear HV
    have hb0 : (O == 0) = false := by rw [beq_eq_false_iff_ne]; exact h0
    go_enter Tryz.func128, Tryz.ntmps128
    go_wp2_with (first | (go_at_call 142; fail))
    go_at_call 142
    refine (HO.out _).mono ?_
    rintro e w1 ⟨rfl, hb⟩
    have HB := Lib.hid hb
    clear hb
    go_wp2
    go_ret
    exact ⟨by rw [HR.out]; rfl, HB.out⟩
end Go.Proofs.YtdomglkcfecnnaaGreat
