/- NumKeys: the walk. -/
import Derived.Test.YtepjdnokkgmhoaaA1
namespace Go.Proofs.Ytepjdnokkgmhoaa
open Go.RowKit Go.Shelf
theorem num_of_ltB {a b : Nat} (h : ltB a b = true) : isNan a = false ∧ isNan b = false ∧ sv a < sv b := by
  unfold ltB at h
  cases ha : isNan a
  · cases hb : isNan b
    · refine ⟨rfl, rfl, ?_⟩
      rw [order_val a b ha hb] at h
      rcases Int.lt_trichotomy (sv a) (sv b) with q | q | q
      · exact q
      · rw [Int.compare_eq_eq.2 q] at h; simp at h
      · rw [Int.compare_eq_gt.2 q] at h; simp at h
    · rw [order_nan a b (.inr hb)] at h; simp at h
  · rw [order_nan a b (.inl ha)] at h; simp at h
theorem ofX_lt {k : Nat} (h : k < 18446744073709551616) : ofX k < 18446744073709551616 := by
  unfold ofX; split
  · exact ofB_lt k h
  · omega
theorem rofX_lt {k : Nat} (h : k < 18446744073709551616) : rofX k < 18446744073709551616 := by
  unfold rofX; split
  · omega
  · split
    · omega
    · exact ofB_lt k h
theorem ofOk_key {k : Nat} (h : ofOk k = true) : keyN (ofX k) = k := by
  have h' : keyN (ofB k) = k := by simpa [ofOk] using h
  unfold ofX; rw [if_pos h']; exact h'
theorem ofX_key {a : Nat} (h : a < 18446744073709551616) : ofX (keyN a) = ofB (keyN a) ∧ ofOk (keyN a) = true := by
  have := key_of_key a h
  exact ⟨by unfold ofX; rw [if_pos this], by unfold ofOk; rw [decide_eq_true this]⟩
theorem ordN_self (a : Nat) : ordN a a = 0 := by simp [ordN]
theorem ordN_swap (a b : Nat) : ordN b a = -ordN a b := by
  unfold ordN
  rcases Nat.lt_trichotomy (keyN a) (keyN b) with h | h | h
  · rw [if_pos h, if_neg (by omega), if_pos h]; rfl
  · simp only [h, Nat.lt_irrefl, if_false]; rfl
  · rw [if_pos h, if_neg (by omega), if_pos h]
theorem ordN_small (a b : Nat) : -1 ≤ ordN a b ∧ ordN a b ≤ 1 := by
  unfold ordN; split
  · omega
  · split <;> omega
set_option maxRecDepth 100000 in
set_option maxHeartbeats 4000000 in
theorem keys_any (a b key : Nat) (ha : a < 18446744073709551616) (hb : b < 18446744073709551616) (hk : key < 18446744073709551616) (w : World) : Calls Try.prog 6 #[.float .f64 a, .float .f64 b, .int .u64 (key : Int)] w fun e w' => e = .returned (.bool true) ∧ Below w.heap.size w w' := by
  have h1 := fun W => tof key hk W
  have h2 := fun W => rof key hk W
  rw [rof_ok key hk] at h2
  have h3 := fun W => tsame (ofX key) (rofX key) (ofX_lt hk) (rofX_lt hk) W
  rw [rof_same key hk, beq_self_eq_true] at h3
  have h4 := fun W => tkey (ofX key) (ofX_lt hk) W
  have h5 := fun W => tof (keyN a) (keyN_lt a ha) W
  rw [(ofX_key ha).1, (ofX_key ha).2] at h5
  have h6 := fun W => tsame (ofB (keyN a)) a (ofB_lt _ (keyN_lt a ha)) ha W
  rw [key_of_key a ha, beq_self_eq_true] at h6
  have h7 := fun W => torder a b ha hb W
  have h8 := fun W => rorder a b ha hb W
  have h9 := fun W => torder a a ha ha W
  rw [ordN_self] at h9
  have h10 := fun W => torder b a hb ha W
  rw [ordN_swap] at h10
  have hsm := ordN_small a b
  have hlt := fun h : ltB a b = true => key_lt_of_sv ha hb (num_of_ltB h).1 (num_of_ltB h).2.1 (num_of_ltB h).2.2
  have hok := fun h : ofOk key = true => ofOk_key h
  obtain ⟨D, hD⟩ : ∃ D, ordN a b = D := ⟨_, rfl⟩
  rw [hD] at h7 h8 h10 hsm
  have w1 : IntKind.i64.wrap (-D) = -D := IntWalk.i64_in _ (by omega)
  have w2 : IntKind.i64.wrap (-(-D)) = D := by rw [Int.neg_neg]; exact IntWalk.i64_in _ (by omega)
  have HA := Lib.hid ha
  have HB := Lib.hid hb
  obtain ⟨g, hg⟩ : ∃ g, ofOk key = g := ⟨_, rfl⟩
  rw [hg] at h1 h2 hok
  have H1 := Lib.hid h1
  have H2 := Lib.hid h2
  have H3 := Lib.hid h3
  have H5 := Lib.hid h5
  have H6 := Lib.hid h6
  have H7 := Lib.hid h7
  have H8 := Lib.hid h8
  have H9 := Lib.hid h9
  have H10 := Lib.hid h10
  have HOK := Lib.hid hok
  have HLT := Lib.hid hlt
  have HG := Lib.hid hg
  have H4 := Lib.hid h4
  clear h1 h2 h3 h4 h5 h6 h7 h8 h9 h10 hok hlt ha hb hk hg hsm hD
  cases hl : ltB a b
  case false =>
    have t0 := lt_test false hl
    clear hl
    cases g
    case false =>
      go_enter Try.func6, Try.ntmps6
      go_wp2_with (first | (go_at_call 29; first | ((with_reducible refine (H1.out _).mono ?_); rintro e w' ⟨rfl, rfl⟩) | ((with_reducible refine (H5.out _).mono ?_); rintro e w' ⟨rfl, rfl⟩)) | (go_at_call 30; (with_reducible refine (H2.out _).mono ?_); rintro e w' ⟨rfl, rfl⟩) | (go_at_call 31; first | ((with_reducible refine (tkey a HA.out _).mono ?_); rintro e w' ⟨rfl, rfl⟩) | ((with_reducible refine (tkey b HB.out _).mono ?_); rintro e w' ⟨rfl, rfl⟩) | ((with_reducible refine (H4.out _).mono ?_); rintro e w' ⟨rfl, rfl⟩; rw [HOK.out rfl])) | (go_at_call 32; first | ((with_reducible refine (rkey a HA.out _).mono ?_); rintro e w' ⟨rfl, rfl⟩) | ((with_reducible refine (rkey b HB.out _).mono ?_); rintro e w' ⟨rfl, rfl⟩)) | (go_at_call 11; first | ((with_reducible refine (H3.out _).mono ?_); rintro e w' ⟨rfl, rfl⟩) | ((with_reducible refine (H6.out _).mono ?_); rintro e w' ⟨rfl, rfl⟩)) | (go_at_call 33; first | ((with_reducible refine (H7.out _).mono ?_); rintro e w' ⟨rfl, rfl⟩) | ((with_reducible refine (H9.out _).mono ?_); rintro e w' ⟨rfl, rfl⟩) | ((with_reducible refine (H10.out _).mono ?_); rintro e w' ⟨rfl, rfl⟩)) | (go_at_call 34; (with_reducible refine (H8.out _).mono ?_); rintro e w' ⟨rfl, rfl⟩) | (go_at_call 12; refine (tawake _).mono ?_; rintro e w1 ⟨rfl, hB1⟩; have HB1 := Lib.hid hB1; clear hB1))
      go_ret
      exact ⟨rfl, HB1.out⟩
    case true =>
      have h4 := H4.out
      rw [HOK.out rfl] at h4
      have H4T := Lib.hid h4
      clear h4
      go_enter Try.func6, Try.ntmps6
      go_wp2_with (first | (go_at_call 29; first | ((with_reducible refine (H1.out _).mono ?_); rintro e w' ⟨rfl, rfl⟩) | ((with_reducible refine (H5.out _).mono ?_); rintro e w' ⟨rfl, rfl⟩)) | (go_at_call 30; (with_reducible refine (H2.out _).mono ?_); rintro e w' ⟨rfl, rfl⟩) | (go_at_call 31; first | ((with_reducible refine (tkey a HA.out _).mono ?_); rintro e w' ⟨rfl, rfl⟩) | ((with_reducible refine (tkey b HB.out _).mono ?_); rintro e w' ⟨rfl, rfl⟩) | ((with_reducible refine (H4T.out _).mono ?_); rintro e w' ⟨rfl, rfl⟩)) | (go_at_call 32; first | ((with_reducible refine (rkey a HA.out _).mono ?_); rintro e w' ⟨rfl, rfl⟩) | ((with_reducible refine (rkey b HB.out _).mono ?_); rintro e w' ⟨rfl, rfl⟩)) | (go_at_call 11; first | ((with_reducible refine (H3.out _).mono ?_); rintro e w' ⟨rfl, rfl⟩) | ((with_reducible refine (H6.out _).mono ?_); rintro e w' ⟨rfl, rfl⟩)) | (go_at_call 33; first | ((with_reducible refine (H7.out _).mono ?_); rintro e w' ⟨rfl, rfl⟩) | ((with_reducible refine (H9.out _).mono ?_); rintro e w' ⟨rfl, rfl⟩) | ((with_reducible refine (H10.out _).mono ?_); rintro e w' ⟨rfl, rfl⟩)) | (go_at_call 34; (with_reducible refine (H8.out _).mono ?_); rintro e w' ⟨rfl, rfl⟩) | (go_at_call 12; refine (tawake _).mono ?_; rintro e w1 ⟨rfl, hB1⟩; have HB1 := Lib.hid hB1; clear hB1))
      go_ret
      exact ⟨rfl, HB1.out⟩

  case true =>
    have t0 := lt_test true hl
    have t1 : decide (keyN b ≤ keyN a) = false := by have := HLT.out hl; simp; omega
    clear hl
    cases g
    case false =>
      go_enter Try.func6, Try.ntmps6
      go_wp2_with (first | (go_at_call 29; first | ((with_reducible refine (H1.out _).mono ?_); rintro e w' ⟨rfl, rfl⟩) | ((with_reducible refine (H5.out _).mono ?_); rintro e w' ⟨rfl, rfl⟩)) | (go_at_call 30; (with_reducible refine (H2.out _).mono ?_); rintro e w' ⟨rfl, rfl⟩) | (go_at_call 31; first | ((with_reducible refine (tkey a HA.out _).mono ?_); rintro e w' ⟨rfl, rfl⟩) | ((with_reducible refine (tkey b HB.out _).mono ?_); rintro e w' ⟨rfl, rfl⟩) | ((with_reducible refine (H4.out _).mono ?_); rintro e w' ⟨rfl, rfl⟩; rw [HOK.out rfl])) | (go_at_call 32; first | ((with_reducible refine (rkey a HA.out _).mono ?_); rintro e w' ⟨rfl, rfl⟩) | ((with_reducible refine (rkey b HB.out _).mono ?_); rintro e w' ⟨rfl, rfl⟩)) | (go_at_call 11; first | ((with_reducible refine (H3.out _).mono ?_); rintro e w' ⟨rfl, rfl⟩) | ((with_reducible refine (H6.out _).mono ?_); rintro e w' ⟨rfl, rfl⟩)) | (go_at_call 33; first | ((with_reducible refine (H7.out _).mono ?_); rintro e w' ⟨rfl, rfl⟩) | ((with_reducible refine (H9.out _).mono ?_); rintro e w' ⟨rfl, rfl⟩) | ((with_reducible refine (H10.out _).mono ?_); rintro e w' ⟨rfl, rfl⟩)) | (go_at_call 34; (with_reducible refine (H8.out _).mono ?_); rintro e w' ⟨rfl, rfl⟩) | (go_at_call 12; refine (tawake _).mono ?_; rintro e w1 ⟨rfl, hB1⟩; have HB1 := Lib.hid hB1; clear hB1))
      go_ret
      exact ⟨rfl, HB1.out⟩
    case true =>
      have h4 := H4.out
      rw [HOK.out rfl] at h4
      have H4T := Lib.hid h4
      clear h4
      go_enter Try.func6, Try.ntmps6
      go_wp2_with (first | (go_at_call 29; first | ((with_reducible refine (H1.out _).mono ?_); rintro e w' ⟨rfl, rfl⟩) | ((with_reducible refine (H5.out _).mono ?_); rintro e w' ⟨rfl, rfl⟩)) | (go_at_call 30; (with_reducible refine (H2.out _).mono ?_); rintro e w' ⟨rfl, rfl⟩) | (go_at_call 31; first | ((with_reducible refine (tkey a HA.out _).mono ?_); rintro e w' ⟨rfl, rfl⟩) | ((with_reducible refine (tkey b HB.out _).mono ?_); rintro e w' ⟨rfl, rfl⟩) | ((with_reducible refine (H4T.out _).mono ?_); rintro e w' ⟨rfl, rfl⟩)) | (go_at_call 32; first | ((with_reducible refine (rkey a HA.out _).mono ?_); rintro e w' ⟨rfl, rfl⟩) | ((with_reducible refine (rkey b HB.out _).mono ?_); rintro e w' ⟨rfl, rfl⟩)) | (go_at_call 11; first | ((with_reducible refine (H3.out _).mono ?_); rintro e w' ⟨rfl, rfl⟩) | ((with_reducible refine (H6.out _).mono ?_); rintro e w' ⟨rfl, rfl⟩)) | (go_at_call 33; first | ((with_reducible refine (H7.out _).mono ?_); rintro e w' ⟨rfl, rfl⟩) | ((with_reducible refine (H9.out _).mono ?_); rintro e w' ⟨rfl, rfl⟩) | ((with_reducible refine (H10.out _).mono ?_); rintro e w' ⟨rfl, rfl⟩)) | (go_at_call 34; (with_reducible refine (H8.out _).mono ?_); rintro e w' ⟨rfl, rfl⟩) | (go_at_call 12; refine (tawake _).mono ?_; rintro e w1 ⟨rfl, hB1⟩; have HB1 := Lib.hid hB1; clear hB1))
      go_ret
      exact ⟨rfl, HB1.out⟩
end Go.Proofs.Ytepjdnokkgmhoaa
