/- Whole numbers' texts: the walk of Print. -/
import Derived.Test.YtepjdnokkgmhoaaP1
namespace Go.Proofs.Ytepjdnokkgmhoaa
open Go.RowKit Go.Shelf
set_option maxRecDepth 100000 in
set_option maxHeartbeats 400000 in
theorem tprint (n : Int) (hlo : -9223372036854775808 ≤ n) (hhi : n ≤ 9223372036854775807) (w : World) : Calls Try.prog 16 #[.int .i64 n] w fun e w' => e = .returned (.string (printS n)) ∧ Below w.heap.size w w' := by
  obtain ⟨U, hU⟩ : ∃ U, n.natAbs = U := ⟨_, rfl⟩
  obtain ⟨S, hS⟩ : ∃ S, printS n = S := ⟨_, rfl⟩
  have e1 : strOfNums ((if n < 0 then [45] else []) ++ digL U (cntD U)) = S := by rw [← hS, printS, hU]
  rw [hS]
  have E1 := Lib.hid e1
  have HU := Lib.hid (show U < 10 ^ 20 by omega)
  have HC := Lib.hid (cntD_eq U)
  clear hS e1
  by_cases hn : n < 0
  · have g1 : decide (n < 0) = true := by simpa using hn
    have h1 : IntKind.u64.wrap n = n + 18446744073709551616 := by rw [IntKind.wrap_u64]; omega
    have h2 : IntKind.u64.wrap (-(n + 18446744073709551616)) = (U : Int) := by rw [IntKind.wrap_u64]; omega
    have E2 : Hid (strOfNums (45 :: digL U (cntD U)) = S) := by show _ = _; rw [← E1.out, if_pos hn, List.singleton_append]
    clear hU hlo hhi hn
    go_enter Try.func16, Try.ntmps16
    go_wp2
    go_loopw [4, 5] (fun i u wr => ∃ k V : Nat, k < 21 ∧ i = .int .i64 ((24 - k : Nat) : Int) ∧ u = .int .u64 (V : Int) ∧ Hid (V = U / 10 ^ k) ∧ Hid (∀ j, j < k → 0 < U / 10 ^ (j + 1)) ∧ wr.rowIs w.heap.size 57 24 (rowD U k) ∧ Below w.heap.size w wr) (fun i _ _ => (intOf i).toNat)
    case atStart =>
      have hx : Hid (∀ j, j < 0 → 0 < U / 10 ^ (j + 1)) := Lib.hid (fun j hj => absurd hj (Nat.not_lt_zero j))
      have hy : Hid (U = U / 10 ^ 0) := Lib.hid (by simp)
      refine ⟨0, U, by omega, by simp, rfl, hy, hx, ?_, (Below.refl _ _).alloc (Nat.le_refl _) _⟩
      exact row0 w U _ (by simp [Array.replicate_succ])
    case round =>
      obtain ⟨k, V, hk, rfl, rfl, hV, hall, hrow, hB⟩ := hrel
      have hv := hV.out
      have hc := hrow.cell (i := 23 - k) (by omega)
      have hz := hrow.frozen (23 - k)
      have w0 : IntKind.i64.wrap (((24 - k : Nat) : Int) - 1) = ((23 - k : Nat) : Int) := by rw [IntWalk.i64_in _ (by omega)]; omega
      have hvb : V < 10 ^ 20 := by rw [hv]; exact Nat.lt_of_le_of_lt (Nat.div_le_self _ _) HU.out
      obtain ⟨M, hM⟩ : ∃ M, V % 10 = M := ⟨_, rfl⟩
      obtain ⟨V2, hV2⟩ : ∃ V2, V / 10 = V2 := ⟨_, rfl⟩
      have hM10 : M < 10 := by omega
      have r1 : (V : Int).tmod 10 = (M : Int) := by rw [rem10, hM]
      have r2 : IntKind.u64.wrap (48 + (M : Int)) = 48 + (M : Int) := by rw [IntKind.wrap_u64]; omega
      have r3 : (48 + (M : Int)) % 256 = 48 + (M : Int) := by omega
      have q1 : (V : Int).tdiv 10 = (V2 : Int) := by rw [quo10, hV2]
      have q2 : IntKind.u64.wrap (V2 : Int) = (V2 : Int) := by rw [IntKind.wrap_u64]; omega
      have hv2 : V2 = U / 10 ^ (k + 1) := by rw [← hV2, hv, Nat.div_div_eq_div_mul, Nat.pow_succ]
      have hrow2 : (wr.setCell ⟨w.heap.size, 23 - k, none⟩ (.int .u8 (48 + (M : Int)))).rowIs w.heap.size 57 24 (rowD U (k + 1)) := by
        have := rowD_set (by omega) hrow
        rw [← hv, hM] at this; exact this
      have hB2 : Below w.heap.size w (wr.setCell ⟨w.heap.size, 23 - k, none⟩ (.int .u8 (48 + (M : Int)))) := hB.setCell (Nat.le_refl _) _
      have HR := Lib.hid hrow2
      have HB := Lib.hid hB2
      have hi : decide (((23 - k : Nat) : Int) < 24) = true := by simp; omega
      by_cases h0 : V2 = 0
      · have hK : cntD U = k + 1 := HC.out k HU.out (by rw [← hv2, h0]) hall.out
        have hk2 : k ≤ 20 := by have := cntD_le U; omega
        have E3 : Hid (strOfNums (45 :: digL U (k + 1)) = S) := by show _ = _; rw [← E2.out, hK]
        have w1 : ((23 - k : Nat) : Int) - 1 = ((22 - k : Nat) : Int) := by omega
        have hi2 : decide (((22 - k : Nat) : Int) < 24) = true := by simp; omega
        have hc2 := hrow2.cell (i := 22 - k) (by omega)
        have hz2 := hrow2.frozen (22 - k)
        have hrow3 := hrow2.set (22 - k) (.int .u8 45)
        have hcv := conv58n _ w.heap.size U k (by omega) hrow3
        have hsl := fun W => slice57 W w.heap.size (22 - k) (by omega)
        rw [show 24 - (22 - k) = k + 2 by omega] at hsl
        have HB3 := Lib.hid (hB2.setCell (p := ⟨w.heap.size, 22 - k, none⟩) (Nat.le_refl _) (.int .u8 45))
        subst h0
        clear hrow hrow2 hrow3 hB hB2 hv hM hV2 hv2 hvb hK hM10
        rw [E3.out] at hcv
        go_wp2
        go_ret
        exact ⟨rfl, HB3.out⟩
      · have hne : ((V2 : Int) == 0) = false := by simp; omega
        have hall2 : Hid (∀ j, j < k + 1 → 0 < U / 10 ^ (j + 1)) := fun j hj => by
          rcases Nat.lt_or_ge j k with z | z
          · exact hall.out j z
          · rw [show j = k by omega, ← hv2]; omega
        have hk20 : k < 20 := by
          rcases Nat.lt_or_ge k 20 with z | z
          · exact z
          · have h20 : U / 10 ^ (k + 1) = 0 := Nat.div_eq_of_lt (Nat.lt_of_lt_of_le HU.out (Nat.pow_le_pow_right (by omega) (by omega)))
            rw [← hv2] at h20; exact absurd h20 h0
        have hv3 : Hid (V2 = U / 10 ^ (k + 1)) := Lib.hid hv2
        have w4 : ((23 - k : Nat) : Int) = ((24 - (k + 1) : Nat) : Int) := by omega
        have W4 := Lib.hid w4
        clear hrow hrow2 hB hB2 hv hM hV2 hv2 hvb hM10 h0 w4
        go_wp2
        go_roundw
        case rel => exact ⟨k + 1, V2, by omega, by rw [W4.out], rfl, hv3, hall2, HR.out, HB.out⟩
        case measure => simp [intOf]; omega
  · have g1 : decide (n < 0) = false := by simpa using hn
    have h1 : IntKind.u64.wrap n = (U : Int) := by rw [IntKind.wrap_u64]; omega
    have E2 : Hid (strOfNums (digL U (cntD U)) = S) := by show _ = _; rw [← E1.out, if_neg hn, List.nil_append]
    clear hU hlo hhi hn
    go_enter Try.func16, Try.ntmps16
    go_wp2
    go_loopw [4, 5] (fun i u wr => ∃ k V : Nat, k < 21 ∧ i = .int .i64 ((24 - k : Nat) : Int) ∧ u = .int .u64 (V : Int) ∧ Hid (V = U / 10 ^ k) ∧ Hid (∀ j, j < k → 0 < U / 10 ^ (j + 1)) ∧ wr.rowIs w.heap.size 57 24 (rowD U k) ∧ Below w.heap.size w wr) (fun i _ _ => (intOf i).toNat)
    case atStart =>
      have hx : Hid (∀ j, j < 0 → 0 < U / 10 ^ (j + 1)) := Lib.hid (fun j hj => absurd hj (Nat.not_lt_zero j))
      have hy : Hid (U = U / 10 ^ 0) := Lib.hid (by simp)
      refine ⟨0, U, by omega, by simp, rfl, hy, hx, ?_, (Below.refl _ _).alloc (Nat.le_refl _) _⟩
      exact row0 w U _ (by simp [Array.replicate_succ])
    case round =>
      obtain ⟨k, V, hk, rfl, rfl, hV, hall, hrow, hB⟩ := hrel
      have hv := hV.out
      have hc := hrow.cell (i := 23 - k) (by omega)
      have hz := hrow.frozen (23 - k)
      have w0 : IntKind.i64.wrap (((24 - k : Nat) : Int) - 1) = ((23 - k : Nat) : Int) := by rw [IntWalk.i64_in _ (by omega)]; omega
      have hvb : V < 10 ^ 20 := by rw [hv]; exact Nat.lt_of_le_of_lt (Nat.div_le_self _ _) HU.out
      obtain ⟨M, hM⟩ : ∃ M, V % 10 = M := ⟨_, rfl⟩
      obtain ⟨V2, hV2⟩ : ∃ V2, V / 10 = V2 := ⟨_, rfl⟩
      have hM10 : M < 10 := by omega
      have r1 : (V : Int).tmod 10 = (M : Int) := by rw [rem10, hM]
      have r2 : IntKind.u64.wrap (48 + (M : Int)) = 48 + (M : Int) := by rw [IntKind.wrap_u64]; omega
      have r3 : (48 + (M : Int)) % 256 = 48 + (M : Int) := by omega
      have q1 : (V : Int).tdiv 10 = (V2 : Int) := by rw [quo10, hV2]
      have q2 : IntKind.u64.wrap (V2 : Int) = (V2 : Int) := by rw [IntKind.wrap_u64]; omega
      have hv2 : V2 = U / 10 ^ (k + 1) := by rw [← hV2, hv, Nat.div_div_eq_div_mul, Nat.pow_succ]
      have hrow2 : (wr.setCell ⟨w.heap.size, 23 - k, none⟩ (.int .u8 (48 + (M : Int)))).rowIs w.heap.size 57 24 (rowD U (k + 1)) := by
        have := rowD_set (by omega) hrow
        rw [← hv, hM] at this; exact this
      have hB2 : Below w.heap.size w (wr.setCell ⟨w.heap.size, 23 - k, none⟩ (.int .u8 (48 + (M : Int)))) := hB.setCell (Nat.le_refl _) _
      have HR := Lib.hid hrow2
      have HB := Lib.hid hB2
      have hi : decide (((23 - k : Nat) : Int) < 24) = true := by simp; omega
      by_cases h0 : V2 = 0
      · have hK : cntD U = k + 1 := HC.out k HU.out (by rw [← hv2, h0]) hall.out
        have hk2 : k ≤ 20 := by have := cntD_le U; omega
        have E3 : Hid (strOfNums (digL U (k + 1)) = S) := by show _ = _; rw [← E2.out, hK]
        have hcv := conv58 _ w.heap.size U k (by omega) hrow2
        have hsl := fun W => slice57 W w.heap.size (23 - k) (by omega)
        rw [show 24 - (23 - k) = k + 1 by omega] at hsl
        subst h0
        clear hrow hrow2 hB hB2 hv hM hV2 hv2 hvb hK hM10
        rw [E3.out] at hcv
        go_wp2
        go_ret
        exact ⟨rfl, HB.out⟩
      · have hne : ((V2 : Int) == 0) = false := by simp; omega
        have hall2 : Hid (∀ j, j < k + 1 → 0 < U / 10 ^ (j + 1)) := fun j hj => by
          rcases Nat.lt_or_ge j k with z | z
          · exact hall.out j z
          · rw [show j = k by omega, ← hv2]; omega
        have hk20 : k < 20 := by
          rcases Nat.lt_or_ge k 20 with z | z
          · exact z
          · have h20 : U / 10 ^ (k + 1) = 0 := Nat.div_eq_of_lt (Nat.lt_of_lt_of_le HU.out (Nat.pow_le_pow_right (by omega) (by omega)))
            rw [← hv2] at h20; exact absurd h20 h0
        have hv3 : Hid (V2 = U / 10 ^ (k + 1)) := Lib.hid hv2
        have w4 : ((23 - k : Nat) : Int) = ((24 - (k + 1) : Nat) : Int) := by omega
        have W4 := Lib.hid w4
        clear hrow hrow2 hB hB2 hv hM hV2 hv2 hvb hM10 h0 w4
        go_wp2
        go_roundw
        case rel => exact ⟨k + 1, V2, by omega, by rw [W4.out], rfl, hv3, hall2, HR.out, HB.out⟩
        case measure => simp [intOf]; omega

end Go.Proofs.Ytepjdnokkgmhoaa
