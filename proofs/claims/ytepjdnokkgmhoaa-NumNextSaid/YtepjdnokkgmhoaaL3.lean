/- NumNext: the walks. -/
import Derived.Test.YtepjdnokkgmhoaaL2
namespace Go.Proofs.Ytepjdnokkgmhoaa
open Go.RowKit Go.Shelf
def nextBad (x : Nat) : Bool := isNan x || decide (sv 9218868437227405311 < sv x)
def nextX (x : Nat) : Nat := if nextBad x then 0 else ofX (keyN x + 1)
def nextOk (x : Nat) : Bool := if nextBad x then false else ofOk (keyN x + 1)
def rnextX (x : Nat) : Nat := if nextBad x then 0 else rofX (keyN x + 1)
theorem next_key {x : Nat} (hx : x < 18446744073709551616) (h : nextBad x = false) : keyN x + 1 < 18446744073709551616 := by
  simp only [nextBad, Bool.or_eq_false_iff] at h
  have := keyN_num x hx h.1
  omega
set_option maxHeartbeats 1000000 in
theorem tnext (x : Nat) (hx : x < 18446744073709551616) (w : World) : Calls Try.prog 35 #[.float .f64 x] w fun e w' => e = .returned (.tuple #[.float .f64 (nextX x), .bool (nextOk x)]) ∧ w = w' := by
  cases hn : isNan x
  · have e0 : nextBad x = decide (sv 9218868437227405311 < sv x) := by unfold nextBad; rw [hn, Bool.false_or]
    have ho := ord_num hn
    rcases ord_cases hn nan_max with ⟨q, r⟩ | ⟨q, r⟩ | ⟨q, r⟩
    case inr.inr =>
      have e1 : nextBad x = true := by rw [e0]; simpa [maxF] using q
      have e2 : nextX x = 0 := by unfold nextX; rw [e1]; simp only [if_true]
      have e3 : nextOk x = false := by unfold nextOk; rw [e1]; simp only [if_true]
      rw [e2, e3]
      unfold maxF at r
      clear e0 e1 e2 e3 q hn
      go_enter Try.func35, Try.ntmps35; go_wp2; go_ret2; exact ⟨rfl, rfl⟩
    all_goals
      have e1 : nextBad x = false := by rw [e0]; simp only [maxF] at q; rw [decide_eq_false_iff_not]; omega
      have e2 : nextX x = ofX (keyN x + 1) := by unfold nextX; rw [e1]; simp only [Bool.false_eq_true, if_false]
      have e3 : nextOk x = ofOk (keyN x + 1) := by unfold nextOk; rw [e1]; simp only [Bool.false_eq_true, if_false]
      have hk := next_key hx e1
      obtain ⟨m, hm⟩ : ∃ m, keyN x + 1 = m := ⟨_, rfl⟩
      rw [hm] at e2 e3 hk
      rw [e2, e3]
      unfold maxF at r
      have hw : IntKind.u64.wrap ((keyN x : Int) + 1) = (m : Int) := by rw [IntKind.wrap_u64]; omega
      have HX := Lib.hid hx
      have HK := Lib.hid hk
      clear e0 e1 e2 e3 q hn hk hm hx
      go_enter Try.func35, Try.ntmps35
      go_wp2_with (first | (go_at_call 31; (with_reducible refine (tkey _ HX.out _).mono ?_); rintro e w' ⟨rfl, rfl⟩) | (go_at_call 29; (with_reducible refine (tof _ HK.out _).mono ?_); rintro e w' ⟨rfl, rfl⟩))
      go_ret2
      exact ⟨rfl, rfl⟩
  · have e1 : nextBad x = true := by unfold nextBad; rw [hn, Bool.true_or]
    have e2 : nextX x = 0 := by unfold nextX; rw [e1]; simp only [if_true]
    have e3 : nextOk x = false := by unfold nextOk; rw [e1]; simp only [if_true]
    rw [e2, e3]
    have ho := ord_nan hn
    clear e1 e2 e3 hn
    go_enter Try.func35, Try.ntmps35; go_wp2; go_ret2; exact ⟨rfl, rfl⟩
set_option maxHeartbeats 1000000 in
theorem rnext (x : Nat) (hx : x < 18446744073709551616) (w : World) : Calls Try.prog 36 #[.float .f64 x] w fun e w' => e = .returned (.tuple #[.float .f64 (rnextX x), .bool (nextOk x)]) ∧ w = w' := by
  cases hn : isNan x
  · have e0 : nextBad x = decide (sv 9218868437227405311 < sv x) := by unfold nextBad; rw [hn, Bool.false_or]
    have ho := ord_num hn
    rcases ord_cases hn nan_max with ⟨q, r⟩ | ⟨q, r⟩ | ⟨q, r⟩
    case inr.inr =>
      have e1 : nextBad x = true := by rw [e0]; simpa [maxF] using q
      have e2 : rnextX x = 0 := by unfold rnextX; rw [e1]; simp only [if_true]
      have e3 : nextOk x = false := by unfold nextOk; rw [e1]; simp only [if_true]
      rw [e2, e3]
      unfold maxF at r
      clear e0 e1 e2 e3 q hn
      go_enter Try.func36, Try.ntmps36; go_wp2; go_ret2; exact ⟨rfl, rfl⟩
    all_goals
      have e1 : nextBad x = false := by rw [e0]; simp only [maxF] at q; rw [decide_eq_false_iff_not]; omega
      have hk := next_key hx e1
      have e2 : rnextX x = rofX (keyN x + 1) := by unfold rnextX; rw [e1]; simp only [Bool.false_eq_true, if_false]
      have e3 : nextOk x = rofOk (keyN x + 1) := by unfold nextOk; rw [e1, rof_ok _ hk]; simp only [Bool.false_eq_true, if_false]
      obtain ⟨m, hm⟩ : ∃ m, keyN x + 1 = m := ⟨_, rfl⟩
      rw [hm] at e2 e3 hk
      rw [e2, e3]
      unfold maxF at r
      have hw : IntKind.u64.wrap ((keyN x : Int) + 1) = (m : Int) := by rw [IntKind.wrap_u64]; omega
      have HX := Lib.hid hx
      have HK := Lib.hid hk
      clear e0 e1 e2 e3 q hn hk hm hx
      go_enter Try.func36, Try.ntmps36
      go_wp2_with (first | (go_at_call 32; (with_reducible refine (rkey _ HX.out _).mono ?_); rintro e w' ⟨rfl, rfl⟩) | (go_at_call 30; (with_reducible refine (rof _ HK.out _).mono ?_); rintro e w' ⟨rfl, rfl⟩))
      go_ret2
      exact ⟨rfl, rfl⟩
  · have e1 : nextBad x = true := by unfold nextBad; rw [hn, Bool.true_or]
    have e2 : rnextX x = 0 := by unfold rnextX; rw [e1]; simp only [if_true]
    have e3 : nextOk x = false := by unfold nextOk; rw [e1]; simp only [if_true]
    rw [e2, e3]
    have ho := ord_nan hn
    clear e1 e2 e3 hn
    go_enter Try.func36, Try.ntmps36; go_wp2; go_ret2; exact ⟨rfl, rfl⟩
theorem next_same {a : Nat} (h : a < 18446744073709551616) : keyN (rnextX a) = keyN (nextX a) := by
  cases hb : nextBad a
  · have hk := next_key h hb
    obtain ⟨m, hm⟩ : ∃ m, keyN a + 1 = m := ⟨_, rfl⟩
    rw [hm] at hk
    have e : rnextX a = rofX m := by unfold rnextX; rw [hb, hm, if_neg (by decide)]
    have e2 : nextX a = ofX m := by unfold nextX; rw [hb, hm, if_neg (by decide)]
    rw [e, e2]; exact rof_same m hk
  · have e : rnextX a = 0 := by unfold rnextX; rw [hb, if_pos rfl]
    have e2 : nextX a = 0 := by unfold nextX; rw [hb, if_pos rfl]
    rw [e, e2]
theorem nextX_lt {a : Nat} (h : a < 18446744073709551616) : nextX a < 18446744073709551616 := by
  unfold nextX
  cases hb : nextBad a
  · exact ofX_lt (next_key h hb)
  · simp only [if_true]; omega
theorem rnextX_lt {a : Nat} (h : a < 18446744073709551616) : rnextX a < 18446744073709551616 := by
  cases hb : nextBad a
  · have hk := next_key h hb
    obtain ⟨m, hm⟩ : ∃ m, keyN a + 1 = m := ⟨_, rfl⟩
    rw [hm] at hk
    have e : rnextX a = rofX m := by unfold rnextX; rw [hb, hm, if_neg (by decide)]
    rw [e]; exact rofX_lt hk
  · have e : rnextX a = 0 := by unfold rnextX; rw [hb, if_pos rfl]
    rw [e]; omega
theorem ofX_no {k : Nat} (h : ofOk k = false) : ofX k = 0 := by
  unfold ofX; unfold ofOk at h
  rw [decide_eq_false_iff_not] at h
  rw [if_neg h]
theorem next_no {a : Nat} (h : nextOk a = false) : nextX a = 0 := by
  unfold nextX; unfold nextOk at h
  cases hb : nextBad a
  · rw [hb] at h
    obtain ⟨m, hm⟩ : ∃ m, keyN a + 1 = m := ⟨_, rfl⟩
    rw [hm] at h ⊢
    rw [if_neg (by decide)] at h ⊢
    exact ofX_no h
  · rw [if_pos rfl]
theorem next_yes {a : Nat} (ha : a < 18446744073709551616) (h : nextOk a = true) : keyN (nextX a) = keyN a + 1 ∧ isNan (nextX a) = false ∧ isNan a = false ∧ (sv a < sv (nextX a) ∨ (sv a = 0 ∧ sv (nextX a) = 0)) := by
  have hx := nextX_lt ha
  cases hb : nextBad a
  · have hn : isNan a = false := by simp only [nextBad, Bool.or_eq_false_iff] at hb; exact hb.1
    have hkn := keyN_num a ha hn
    obtain ⟨m, hm⟩ : ∃ m, keyN a + 1 = m := ⟨_, rfl⟩
    have e : nextX a = ofX m := by unfold nextX; rw [hb, hm, if_neg (by decide)]
    have h' : ofOk m = true := by unfold nextOk at h; rw [hb, hm, if_neg (by decide)] at h; exact h
    have h1 : keyN (nextX a) = m := by rw [e]; exact ofOk_key h'
    have h2 : isNan (nextX a) = false := by
      cases hc : isNan (nextX a)
      · rfl
      · have := key_nan _ hc
        omega
    exact ⟨by rw [h1, hm], h2, hn, sv_eq_zero_or ha hx hn h2 (by omega)⟩
  · unfold nextOk at h; rw [hb, if_pos rfl] at h; cases h
theorem ordN_lt {a b : Nat} (h : keyN a < keyN b) : ordN a b = -1 := by unfold ordN; rw [if_pos h]
theorem ordN_not {a b : Nat} (h : ¬ keyN a < keyN b) : (ordN a b != -1) = true := by
  unfold ordN; rw [if_neg h]; split <;> decide
set_option maxRecDepth 100000 in
set_option maxHeartbeats 4000000 in
theorem next_any (a b : Nat) (ha : a < 18446744073709551616) (hb : b < 18446744073709551616) (w : World) : Calls Try.prog 7 #[.float .f64 a, .float .f64 b] w fun e w' => e = .returned (.bool true) ∧ Below w.heap.size w w' := by
  have h1 := fun W => tnext a ha W
  have h2 := fun W => rnext a ha W
  have h3 := fun W => tsame (nextX a) (rnextX a) (nextX_lt ha) (rnextX_lt ha) W
  rw [next_same ha, beq_self_eq_true] at h3
  have h4 := fun W => torder a (nextX a) ha (nextX_lt ha) W
  have h5 := fun W => torder a b ha hb W
  have h6 := fun W => torder b (nextX a) hb (nextX_lt ha) W
  have hy := next_yes ha
  have hz := @next_no a
  obtain ⟨x, hx⟩ : ∃ x, nextX a = x := ⟨_, rfl⟩
  obtain ⟨y, hyy⟩ : ∃ y, rnextX a = y := ⟨_, rfl⟩
  obtain ⟨g, hg⟩ : ∃ g, nextOk a = g := ⟨_, rfl⟩
  rw [hx, hg] at h1 hy hz
  rw [hyy, hg] at h2
  rw [hx, hyy] at h3
  rw [hx] at h4 h6
  clear hx hyy hg
  have H1 := Lib.hid h1
  have H2 := Lib.hid h2
  have H3 := Lib.hid h3
  cases g
  case false =>
    have hx0 := hz rfl
    have h00 : (FloatKind.f64.format.order 0 0) = some .eq := ord_num nan_zero
    subst hx0
    clear h1 h2 h3 h4 h5 h6 hy hz ha hb
    go_enter Try.func7, Try.ntmps7
    go_wp2_with (first | (go_at_call 35; (with_reducible refine (H1.out _).mono ?_); rintro e w' ⟨rfl, rfl⟩) | (go_at_call 36; (with_reducible refine (H2.out _).mono ?_); rintro e w' ⟨rfl, rfl⟩) | (go_at_call 11; (with_reducible refine (H3.out _).mono ?_); rintro e w' ⟨rfl, rfl⟩) | (go_at_call 12; refine (tawake _).mono ?_; rintro e w1 ⟨rfl, hB1⟩; have HB1 := Lib.hid hB1; clear hB1))
    go_ret
    exact ⟨rfl, HB1.out⟩
  case true =>
    obtain ⟨k1, k2, k3, k4⟩ := hy rfl
    have hax : keyN a < keyN x := by omega
    rw [ordN_lt hax] at h4
    have H4 := Lib.hid h4
    by_cases hab : keyN a < keyN b
    · have hbx : ¬ keyN b < keyN x := by omega
      have q5 := ordN_lt hab
      rw [q5] at h5
      have q6 := ordN_not hbx
      obtain ⟨D, hD⟩ : ∃ D, ordN b x = D := ⟨_, rfl⟩
      rw [hD] at h6 q6
      have H5 := Lib.hid h5
      have H6 := Lib.hid h6
      rcases k4 with k4 | ⟨k4, k5⟩
      · have r : FloatKind.f64.format.order x a = some .gt := by
          rcases ord_cases k2 k3 with ⟨q, r⟩ | ⟨q, r⟩ | ⟨q, r⟩
          · omega
          · omega
          · exact r
        clear h1 h2 h3 h4 h5 h6 hy hz ha hb k1 k2 k3 k4 hax hab hbx q5 hD
        go_enter Try.func7, Try.ntmps7
        go_wp2_with (first | (go_at_call 35; (with_reducible refine (H1.out _).mono ?_); rintro e w' ⟨rfl, rfl⟩) | (go_at_call 36; (with_reducible refine (H2.out _).mono ?_); rintro e w' ⟨rfl, rfl⟩) | (go_at_call 11; (with_reducible refine (H3.out _).mono ?_); rintro e w' ⟨rfl, rfl⟩) | (go_at_call 33; first | ((with_reducible refine (H4.out _).mono ?_); rintro e w' ⟨rfl, rfl⟩) | ((with_reducible refine (H5.out _).mono ?_); rintro e w' ⟨rfl, rfl⟩) | ((with_reducible refine (H6.out _).mono ?_); rintro e w' ⟨rfl, rfl⟩)) | (go_at_call 12; refine (tawake _).mono ?_; rintro e w1 ⟨rfl, hB1⟩; have HB1 := Lib.hid hB1; clear hB1))
        go_ret
        exact ⟨rfl, HB1.out⟩
      · have r0 : FloatKind.f64.format.order x 0 = some .eq := by
          rcases ord_cases k2 nan_zero with ⟨q, r⟩ | ⟨q, r⟩ | ⟨q, r⟩
          · rw [sv_zero] at q; omega
          · exact r
          · rw [sv_zero] at q; omega
        have r : FloatKind.f64.format.order x a = some .eq := by
          rcases ord_cases k2 k3 with ⟨q, r⟩ | ⟨q, r⟩ | ⟨q, r⟩
          · omega
          · exact r
          · omega
        clear h1 h2 h3 h4 h5 h6 hy hz ha hb k1 k2 k3 k4 k5 hax hab hbx q5 hD
        go_enter Try.func7, Try.ntmps7
        go_wp2_with (first | (go_at_call 35; (with_reducible refine (H1.out _).mono ?_); rintro e w' ⟨rfl, rfl⟩) | (go_at_call 36; (with_reducible refine (H2.out _).mono ?_); rintro e w' ⟨rfl, rfl⟩) | (go_at_call 11; (with_reducible refine (H3.out _).mono ?_); rintro e w' ⟨rfl, rfl⟩) | (go_at_call 33; first | ((with_reducible refine (H4.out _).mono ?_); rintro e w' ⟨rfl, rfl⟩) | ((with_reducible refine (H5.out _).mono ?_); rintro e w' ⟨rfl, rfl⟩) | ((with_reducible refine (H6.out _).mono ?_); rintro e w' ⟨rfl, rfl⟩)) | (go_at_call 12; refine (tawake _).mono ?_; rintro e w1 ⟨rfl, hB1⟩; have HB1 := Lib.hid hB1; clear hB1))
        go_ret
        exact ⟨rfl, HB1.out⟩
    · have q5 := ordN_not hab
      obtain ⟨D, hD⟩ : ∃ D, ordN a b = D := ⟨_, rfl⟩
      rw [hD] at h5 q5
      have H5 := Lib.hid h5
      have H6 := Lib.hid h6
      rcases k4 with k4 | ⟨k4, k5⟩
      · have r : FloatKind.f64.format.order x a = some .gt := by
          rcases ord_cases k2 k3 with ⟨q, r⟩ | ⟨q, r⟩ | ⟨q, r⟩
          · omega
          · omega
          · exact r
        clear h1 h2 h3 h4 h5 h6 hy hz ha hb k1 k2 k3 k4 hax hab hD
        go_enter Try.func7, Try.ntmps7
        go_wp2_with (first | (go_at_call 35; (with_reducible refine (H1.out _).mono ?_); rintro e w' ⟨rfl, rfl⟩) | (go_at_call 36; (with_reducible refine (H2.out _).mono ?_); rintro e w' ⟨rfl, rfl⟩) | (go_at_call 11; (with_reducible refine (H3.out _).mono ?_); rintro e w' ⟨rfl, rfl⟩) | (go_at_call 33; first | ((with_reducible refine (H4.out _).mono ?_); rintro e w' ⟨rfl, rfl⟩) | ((with_reducible refine (H5.out _).mono ?_); rintro e w' ⟨rfl, rfl⟩) | ((with_reducible refine (H6.out _).mono ?_); rintro e w' ⟨rfl, rfl⟩)) | (go_at_call 12; refine (tawake _).mono ?_; rintro e w1 ⟨rfl, hB1⟩; have HB1 := Lib.hid hB1; clear hB1))
        go_ret
        exact ⟨rfl, HB1.out⟩
      · have r0 : FloatKind.f64.format.order x 0 = some .eq := by
          rcases ord_cases k2 nan_zero with ⟨q, r⟩ | ⟨q, r⟩ | ⟨q, r⟩
          · rw [sv_zero] at q; omega
          · exact r
          · rw [sv_zero] at q; omega
        have r : FloatKind.f64.format.order x a = some .eq := by
          rcases ord_cases k2 k3 with ⟨q, r⟩ | ⟨q, r⟩ | ⟨q, r⟩
          · omega
          · exact r
          · omega
        clear h1 h2 h3 h4 h5 h6 hy hz ha hb k1 k2 k3 k4 k5 hax hab hD
        go_enter Try.func7, Try.ntmps7
        go_wp2_with (first | (go_at_call 35; (with_reducible refine (H1.out _).mono ?_); rintro e w' ⟨rfl, rfl⟩) | (go_at_call 36; (with_reducible refine (H2.out _).mono ?_); rintro e w' ⟨rfl, rfl⟩) | (go_at_call 11; (with_reducible refine (H3.out _).mono ?_); rintro e w' ⟨rfl, rfl⟩) | (go_at_call 33; first | ((with_reducible refine (H4.out _).mono ?_); rintro e w' ⟨rfl, rfl⟩) | ((with_reducible refine (H5.out _).mono ?_); rintro e w' ⟨rfl, rfl⟩) | ((with_reducible refine (H6.out _).mono ?_); rintro e w' ⟨rfl, rfl⟩)) | (go_at_call 12; refine (tawake _).mono ?_; rintro e w1 ⟨rfl, hB1⟩; have HB1 := Lib.hid hB1; clear hB1))
        go_ret
        exact ⟨rfl, HB1.out⟩
end Go.Proofs.Ytepjdnokkgmhoaa
