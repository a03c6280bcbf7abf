/- A number's value: plain laws and the walk. -/
import Derived.Test.YtfalcmbjjlgoaaaGreatDoorQE
import Derived.Test.YtfalcmbjjlgoaaaGreatDoorFin
import Derived.WalkMore
namespace Go.Proofs.YtfalcmbjjlgoaaaGreatDoor
open Go.RowKit Go.Shelf
open Ieee (double)
/-- Ten to the k, as a float. -/
def pw (k : Nat) : Nat := [4607182418800017408, 4621819117588971520, 4636737291354636288, 4652007308841189376, 4666723172467343360, 4681608360884174848, 4696837146684686336].getD k 0
theorem pw_mul (k : Nat) (h : k < 6) : double.mul (pw k) 4621819117588971520 = some (pw (k + 1)) := by
  match k, h with
  | 0, _ => decide +kernel
  | 1, _ => decide +kernel
  | 2, _ => decide +kernel
  | 3, _ => decide +kernel
  | 4, _ => decide +kernel
  | 5, _ => decide +kernel
theorem pw_ofI (k : Nat) (h : k ≤ 6) : ofI ((10 ^ k : Nat) : Int) = pw k := by
  match k, h with
  | 0, _ => decide +kernel
  | 1, _ => decide +kernel
  | 2, _ => decide +kernel
  | 3, _ => decide +kernel
  | 4, _ => decide +kernel
  | 5, _ => decide +kernel
  | 6, _ => decide +kernel
theorem pw_read (k : Nat) (h : k ≤ 6) : ∃ m j, double.read (pw k) = .number false m j ∧ m ≠ 0 := by
  match k, h with
  | 0, _ => exact ⟨2 ^ 52, -52, by decide +kernel, by decide⟩
  | 1, _ => exact ⟨5629499534213120, -49, by decide +kernel, by decide⟩
  | 2, _ => exact ⟨7036874417766400, -46, by decide +kernel, by decide⟩
  | 3, _ => exact ⟨8796093022208000, -43, by decide +kernel, by decide⟩
  | 4, _ => exact ⟨5497558138880000, -39, by decide +kernel, by decide⟩
  | 5, _ => exact ⟨6871947673600000, -36, by decide +kernel, by decide⟩
  | 6, _ => exact ⟨8589934592000000, -33, by decide +kernel, by decide⟩
/-- A number's value. -/
def valV (l : Bs) : Nat := (double.div (ofI (valF l).1) (pw (valF l).2.1)).getD 0
theorem div_fin (x : Nat) (hx : finB x = true) (k : Nat) (hk : k ≤ 6) : ∃ p, double.div x (pw k) = some p ∧ isNan p = false ∧ p < 2 ^ 64 := by
  obtain ⟨m, i, r, _, _⟩ := read_fin x (by simpa [finB] using hx)
  obtain ⟨n, j, q, hn⟩ := pw_read k hk
  unfold Ieee.Format.div
  rw [r, q]
  simp only [Ieee.Datum.quotient, hn, if_false, Option.map_some]
  exact ⟨_, rfl, nan_nearest _ _ _, lt_nearest _ _ _⟩
theorem valF_snoc (l : Bs) (c : UInt8) : valF (l ++ [c]) = valStep (valF l) c := by simp [valF]
theorem valF_bound (l : Bs) : ∀ (x : Nat × Nat × Bool) (B : Nat), x.1 < B → (∀ c ∈ l, c = 46 ∨ isDig c = true) → (l.foldl valStep x).1 < B * 10 ^ (l.filter (fun c => c != 46)).length := by
  induction l with
  | nil => intro x B h _; simpa using h
  | cons c t ih =>
    intro x B h hc
    rw [List.foldl_cons]
    have ht : ∀ c ∈ t, c = 46 ∨ isDig c = true := fun c h => hc c (by simp [h])
    by_cases h46 : c = 46
    · have e : valStep x c = (x.1, x.2.1, true) := by unfold valStep; rw [if_pos h46]
      rw [e, List.filter_cons_of_neg (by simp [h46])]
      exact ih _ B h ht
    · have hd : c.toNat - 48 ≤ 9 := by
        rcases hc c (by simp) with h1 | h1
        · exact absurd h1 h46
        · rw [digit_dec] at h1; simp at h1; omega
      have e : (valStep x c).1 = 10 * x.1 + (c.toNat - 48) := by unfold valStep; rw [if_neg h46]
      rw [List.filter_cons_of_pos (by simp [h46]), List.length_cons, Nat.pow_succ, Nat.mul_comm (10 ^ _) 10, ← Nat.mul_assoc]
      exact ih _ (B * 10) (by rw [e]; omega) ht
theorem valF_mono (l : Bs) : ∀ x : Nat × Nat × Bool, x.2.1 ≤ (l.foldl valStep x).2.1 := by
  induction l with
  | nil => intro x; exact Nat.le_refl _
  | cons c t ih =>
    intro x
    rw [List.foldl_cons]
    refine Nat.le_trans ?_ (ih _)
    unfold valStep
    split
    · exact Nat.le_refl _
    · simp only; split <;> omega
theorem numT_take {l : Bs} (h : NumT l) (j : Nat) : (valF (l.take j)).1 < 10 ^ 15 ∧ (valF (l.take j)).2.1 ≤ 6 := by
  obtain ⟨h1, h2, h3, _⟩ := h
  constructor
  · have hb := valF_bound (l.take j) (0, 0, false) 1 (by decide) (fun c hc => h1 c (List.mem_of_mem_take hc))
    rw [Nat.one_mul] at hb
    have hl : ((l.take j).filter (fun c => c != 46)).length ≤ 15 := Nat.le_trans (List.Sublist.length_le (List.Sublist.filter _ (List.take_sublist j l))) h3
    exact Nat.lt_of_lt_of_le hb (Nat.pow_le_pow_right (by decide) hl)
  · have : (valF (l.take j)).2.1 ≤ (valF l).2.1 := by
      have e : valF l = (l.drop j).foldl valStep (valF (l.take j)) := by
        unfold valF
        rw [← List.foldl_append, List.take_append_drop]
      rw [e]
      exact valF_mono _ _
    omega
theorem take_snoc' (l : Bs) (j : Nat) (h : j < l.length) : l.take (j + 1) = l.take j ++ [l.getD j 0] := by
  rw [List.take_succ_eq_append_getElem h, List.getD_eq_getElem?_getD, List.getElem?_eq_getElem h]
  rfl
theorem valV_some {l : Bs} (h : NumT l) : double.div (ofI (valF l).1) (pw (valF l).2.1) = some (valV l) ∧ isNan (valV l) = false ∧ valV l < 2 ^ 64 := by
  have hb := numT_take h l.length
  rw [List.take_length] at hb
  obtain ⟨p, h1, h2, h3⟩ := div_fin (ofI (valF l).1) (ofI_fin _ (Nat.lt_of_lt_of_le hb.1 (by decide))) _ hb.2
  unfold valV
  rw [h1]
  exact ⟨rfl, h2, h3⟩
set_option maxRecDepth 100000 in
set_option maxHeartbeats 4000000 in
theorem wvalue (l : Bs) (h : NumT l) (w : World) : Calls Tryz.prog 132 #[.string (tx l)] w fun e w' => e = .returned (.float .f64 (valV l)) ∧ w = w' := by
  have HS := Lib.hid (tx_size' l)
  have HN := Lib.hid h
  have HL := Lib.hid h.2.2.2
  have HT := Lib.hid (fun i (hi : i < l.length) => tx_at l i hi)
  clear h
  go_enter Tryz.func132, Tryz.ntmps132
  go_wp2_with fail
  go_loop [3, 4, 5, 6] (fun n b p i => ∃ j : Nat, j ≤ l.length ∧ i = .int .i64 j ∧ Hid (n = .int .i64 ((valF (l.take j)).1 : Nat) ∧ b = .float .f64 (pw (valF (l.take j)).2.1) ∧ p = .bool (valF (l.take j)).2.2)) (fun _ _ _ i => l.length - (intOf i).toNat)
  case atStart => exact ⟨0, Nat.zero_le _, rfl, Lib.hid ⟨rfl, rfl, rfl⟩⟩
  case round =>
    obtain ⟨j, hj, rfl, hh⟩ := hrel
    obtain ⟨rfl, rfl, rfl⟩ := hh.out
    have hb := numT_take HN.out j
    obtain ⟨N, hN⟩ : ∃ N, N = (valF (l.take j)).1 := ⟨_, rfl⟩
    obtain ⟨K, hK⟩ : ∃ K, K = (valF (l.take j)).2.1 := ⟨_, rfl⟩
    obtain ⟨B, hB⟩ : ∃ B, B = (valF (l.take j)).2.2 := ⟨_, rfl⟩
    rw [← hN, ← hK] at hb
    rw [← hN, ← hK, ← hB]
    have HV := Lib.hid (show valF (l.take j) = (N, K, B) by rw [hN, hK, hB])
    have jl : j ≤ 1000000 := by have := HL.out; omega
    have n1 : N < 1000000000000000 := by have := hb.1; omega
    have HK := Lib.hid hb.2
    clear hh hb hN hK hB
    by_cases q1 : j < (tx l).size
    · have q1' : j < l.length := by have := HS.out; omega
      have HX := Lib.hid (HT.out j q1')
      have HTS := Lib.hid (take_snoc' l j q1')
      have HC := Lib.hid (HN.out.1 (l.getD j 0) (by rw [List.getD_eq_getElem?_getD, List.getElem?_eq_getElem q1']; exact List.getElem_mem _))
      by_cases q2 : l.getD j 0 = 46
      · have z : (((tx l)[j]'q1).toNat : Int) = 46 := toNat_of (HX.out.trans q2)
        have HV2 : Hid (valF (l.take (j + 1)) = (N, K, true)) := Lib.hid (by rw [HTS.out, valF_snoc, HV.out]; unfold valStep; rw [if_pos q2])
        clear q2
        go_wp2
        go_round
        case rel => exact ⟨j + 1, by omega, by go_num, Lib.hid (by rw [HV2.out]; exact ⟨rfl, rfl, rfl⟩)⟩
        case measure => simp [intOf]; omega
      · have z : ¬ (((tx l)[j]'q1).toNat : Int) = 46 := ne_nat (c := (tx l)[j]'q1) (v := 46) (by rw [HX.out]; exact q2)
        have hd : isDig (l.getD j 0) = true := by rcases HC.out with h | h; exact absurd h q2; exact h
        have hd2 : 48 ≤ (((tx l)[j]'q1).toNat : Int) ∧ (((tx l)[j]'q1).toNat : Int) ≤ 57 := by rw [HX.out]; rw [digit_dec] at hd; simpa using hd
        obtain ⟨y1, y2⟩ := hd2
        have HV2 : Hid (valF (l.take (j + 1)) = (10 * N + (((tx l)[j]'q1).toNat - 48), if B = true then K + 1 else K, B)) := Lib.hid (by rw [HTS.out, valF_snoc, HV.out, HX.out]; unfold valStep; rw [if_neg q2])
        have HB2 := Lib.hid ((numT_take HN.out (j + 1)).2)
        rw [HV2.out] at HB2
        clear q2 hd
        cases B
        · go_wp2
          go_round
          case rel => exact ⟨j + 1, by omega, by go_num, Lib.hid (by rw [HV2.out]; exact ⟨by go_num, rfl, rfl⟩)⟩
          case measure => simp [intOf]; omega
        · have hm : ∀ W, (binOp BinOp.mul 22 (.float .f64 (pw K)) (.float .f64 4621819117588971520)).run Tryz.prog W = .ok (.float .f64 (pw (K + 1))) W := fun W => run_float_arith W .mul 22 .f64 _ _ _ (pw_mul K (by have := HB2.out; simp at this; omega))
          go_wp2
          go_round
          case rel => exact ⟨j + 1, by omega, by go_num, Lib.hid (by rw [HV2.out]; exact ⟨by go_num, rfl, rfl⟩)⟩
          case measure => simp [intOf]; omega
    · have e : j = l.length := by have := HS.out; omega
      have hV : ∀ W, (binOp BinOp.quo 22 (.float .f64 (floatOfInt .f64 (N : Int))) (.float .f64 (pw K))).run Tryz.prog W = .ok (.float .f64 (valV l)) W := fun W => run_float_arith W .quo 22 .f64 _ _ _ (by
        have h1 := (valV_some HN.out).1
        have h2 := HV.out
        rw [e, List.take_length] at h2
        rw [h2] at h1
        exact h1)
      clear e
      go_wp2
      go_ret
      exact ⟨rfl, rfl⟩
end Go.Proofs.YtfalcmbjjlgoaaaGreatDoor
