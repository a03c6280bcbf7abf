/- Walks: the reference's distance, and the nearest place as a fold. -/
import Derived.Test.YtepjdnokkgmhoaaD5
import Derived.Test.YtepjdnokkgmhoaaLad
namespace Go.Proofs.Ytepjdnokkgmhoaa
open Go.RowKit Go.Shelf
theorem run_neg_float (P : Program) (w : World) (k : FloatKind) (b : Nat) : (Op.unary .neg (.float k b)).run P w = .ok (.float k (Op.negFloat k b)) w := rfl
def apB (x v : Nat) : Nat := if ltB (subB x v) 0 then Op.negFloat .f64 (subB x v) else subB x v
theorem sub_num {x v : Nat} (hx : finB x = true) (hv : isNan v = false) : isNan (subB x v) = false := by
  obtain ⟨p, h1, h2, _⟩ := sub_fin x v hx hv
  unfold subB; rw [h1]; exact h2
theorem neg_parts {d : Nat} (h : d < 2 ^ 64) (hn : isNeg d = true) : Op.negFloat .f64 d = rung d := by
  have h1 : 2 ^ 63 ≤ d := by
    rcases Nat.lt_or_ge d (2 ^ 63) with q | q
    · unfold isNeg at hn; rw [Nat.div_eq_of_lt q] at hn; simp at hn
    · exact q
  obtain ⟨y, rfl⟩ : ∃ y, d = y + 2 ^ 63 := ⟨d - 2 ^ 63, by omega⟩
  show (y + 2 ^ 63) ^^^ 2 ^ 63 = _
  rw [xor_top y (by omega)]
  unfold rung
  omega
theorem rung_rung (d : Nat) : rung (rung d) = rung d := by unfold rung; exact Nat.mod_mod _ _
theorem neg_rung (d : Nat) : isNeg (rung d) = false := by
  unfold isNeg rung
  rw [Nat.div_eq_of_lt (Nat.mod_lt _ (by decide))]; rfl
theorem sv_rung (d : Nat) : sv (rung d) = (valN (rung d) : Int) := by
  unfold sv; rw [neg_rung, rung_rung]; rfl
theorem nan_rung (d : Nat) : isNan (rung d) = isNan d := by unfold isNan; rw [rung_rung]
theorem ltB_sv {a b : Nat} (ha : isNan a = false) (hb : isNan b = false) : ltB a b = decide (sv a < sv b) := by
  unfold ltB
  rw [order_val a b ha hb]
  rcases Int.lt_trichotomy (sv a) (sv b) with h | h | h
  · rw [Int.compare_eq_lt.2 h, decide_eq_true h]; rfl
  · rw [Int.compare_eq_eq.2 h, decide_eq_false (by omega)]; rfl
  · rw [Int.compare_eq_gt.2 h, decide_eq_false (by omega)]; rfl
theorem apB_parts {x v : Nat} (hx : finB x = true) (hv : isNan v = false) : isNan (apB x v) = false ∧ sv (apB x v) = (valN (distB x v) : Int) := by
  have hn := sub_num hx hv
  have hl := (subB_eq x v hx hv).2
  have hlt := ltB_sv hn nan_zero
  rw [sv_zero] at hlt
  unfold apB distB
  generalize subB x v = d at *
  rw [hlt]
  by_cases h : sv d < 0
  · rw [if_pos (decide_eq_true h)]
    have hg : isNeg d = true := by
      unfold sv at h
      cases q : isNeg d
      · rw [q] at h; simp at h; omega
      · rfl
    rw [neg_parts hl hg, nan_rung, sv_rung]
    exact ⟨hn, rfl⟩
  · rw [if_neg (by simpa using h)]
    refine ⟨hn, ?_⟩
    unfold sv at h ⊢
    cases q : isNeg d
    · rfl
    · rw [q] at h; simp only [if_true] at h ⊢; omega
theorem ltB_rung {a b : Nat} (ha : isNan a = false) (hb : isNan b = false) : ltB (rung a) (rung b) = decide (rung a < rung b) := by
  rw [ltB_sv (by rw [nan_rung]; exact ha) (by rw [nan_rung]; exact hb), sv_rung, sv_rung]
  by_cases h : rung a < rung b
  · rw [decide_eq_true h, decide_eq_true (by have := valN_lt h; omega)]
  · rw [decide_eq_false h, decide_eq_false (by have := valN_le (Nat.le_of_not_lt h); omega)]
theorem ltB_dist {x v u : Nat} (hx : finB x = true) (hv : isNan v = false) (hu : isNan u = false) : ltB (distB x v) (distB x u) = decide (distB x v < distB x u) := ltB_rung (sub_num hx hv) (sub_num hx hu)
theorem ltB_ap {x v u : Nat} (hx : finB x = true) (hv : isNan v = false) (hu : isNan u = false) : ltB (apB x v) (apB x u) = ltB (distB x v) (distB x u) := by
  obtain ⟨a1, a2⟩ := apB_parts hx hv
  obtain ⟨b1, b2⟩ := apB_parts hx hu
  rw [ltB_sv a1 b1, a2, b2]
  unfold distB
  rw [ltB_sv (by rw [nan_rung]; exact sub_num hx hv) (by rw [nan_rung]; exact sub_num hx hu), sv_rung, sv_rung]
/-- Where the fold stands behind some places. -/
theorem near_inv {x lo step : Nat} (hx : finB x = true) : ∀ k : Nat, (∀ i, i ≤ k → isNan (valB lo step i) = false) →
    (nearS x (upto lo step (k + 1))).1 ≤ k ∧ (nearS x (upto lo step (k + 1))).2 = distB x (valB lo step (nearS x (upto lo step (k + 1))).1) := by
  intro k
  induction k with
  | zero =>
    intro hv
    rw [upto_succ]
    show (near1 x (0, 9218868437227405312) (0, valB lo step 0)).1 ≤ 0 ∧ _
    have hb := sub_num hx (hv 0 (Nat.le_refl _))
    have hd : ltB (distB x (valB lo step 0)) 9218868437227405312 = decide (distB x (valB lo step 0) < 2047 * 2 ^ 52) := by
      have := ltB_rung (a := subB x (valB lo step 0)) (b := 9218868437227405312) hb (by decide)
      rw [inf_rung] at this
      exact this
    have e : nearS x (upto lo step 0 ++ [(0, valB lo step 0)]) = near1 x (0, 9218868437227405312) (0, valB lo step 0) := by simp [nearS, upto]
    rw [e]
    unfold near1
    dsimp only
    rw [hd]
    by_cases h : distB x (valB lo step 0) < 2047 * 2 ^ 52
    · rw [if_pos (decide_eq_true h)]
      exact ⟨Nat.le_refl _, rfl⟩
    · rw [if_neg (by simpa using h)]
      refine ⟨Nat.le_refl _, ?_⟩
      have h2 : distB x (valB lo step 0) ≤ 2047 * 2 ^ 52 := by unfold distB; simpa [isNan] using hb
      have h3 : distB x (valB lo step 0) = 2047 * 2 ^ 52 := by omega
      show 9218868437227405312 = distB x (valB lo step 0)
      rw [h3]
  | succ k ih =>
    intro hv
    obtain ⟨i1, i2⟩ := ih fun i hi => hv i (by omega)
    rw [upto_succ, nearS_snoc]
    unfold near1
    dsimp only
    split
    · exact ⟨Nat.le_refl _, rfl⟩
    · exact ⟨by omega, i2⟩
def apartEnd (x v : Nat) (w : World) (e : Ending) (w' : World) : Prop := e = .returned (.float .f64 (apB x v)) ∧ w = w'
theorem rapart (x v : Nat) (hx : finB x = true) (hv : isNan v = false) (w : World) : Calls Try.prog 48 #[.float .f64 x, .float .f64 v] w fun e w' => e = .returned (.float .f64 (apB x v)) ∧ w = w' := by
  obtain ⟨g1, g2⟩ := subB_eq x v hx hv
  have hn := sub_num hx hv
  have hsub := fun w' : World => run_float_arith (P := Try.prog) w' .sub 22 .f64 _ _ _ g1
  have hap : apB x v = if ltB (subB x v) 0 then Op.negFloat .f64 (subB x v) else subB x v := rfl
  have hneg := run_neg_float Try.prog
  obtain ⟨d, hd⟩ : ∃ d, subB x v = d := ⟨_, rfl⟩
  obtain ⟨y, hy⟩ : ∃ y, apB x v = y := ⟨_, rfl⟩
  rw [hd] at hsub hn hap
  rw [hy] at hap ⊢
  clear g1 g2 hd hx hv hy hn
  have HA := Lib.hid hap
  cases q : ltB d 0
  all_goals
    have hlt := lt_test _ q
    have Q := Lib.hid q
    clear q hap
    go_enter Try.func48, Try.ntmps48
    go_wp2
    go_ret
    refine ⟨?_, rfl⟩
    have := HA.out
    rw [Q.out] at this
    rw [this]; rfl
end Go.Proofs.Ytepjdnokkgmhoaa
