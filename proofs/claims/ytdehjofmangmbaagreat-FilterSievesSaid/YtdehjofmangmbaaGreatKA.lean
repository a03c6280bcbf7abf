/- Walks: Clean and Flat of the reference. -/
import Derived.Test.YtdehjofmangmbaaGreatK9
import Derived.Test.YtdehjofmangmbaaGreatHD
namespace Go.Proofs.YtdehjofmangmbaaGreat
open Go.RowKit Go.Shelf
theorem flatten_take (L : List Bs) (j : Nat) (hj : j < L.length) : (L.take (j + 1)).flatten = (L.take j).flatten ++ L.getD j [] := by
  rw [List.take_succ_eq_append_getElem hj, List.flatten_append, List.getD_eq_getElem?_getD, List.getElem?_eq_getElem hj]
  simp
set_option maxRecDepth 100000 in
set_option maxHeartbeats 2000000 in
theorem rclean (l : Bs) (hl : l.length ≤ 900000) (w : World) : Calls Tryz.prog 60 #[.string (tx l)] w fun e w' => e = .returned (.string (tx (cleanS l))) ∧ Below w.heap.size w w' := by
  have HC := Lib.hid (fun W => rcut l hl W)
  unfold CutEnd at HC
  have HLN := Lib.hid (cutS_len l)
  have HSH := Lib.hid (cutS_short l)
  have HLL := Lib.hid hl
  have HV := Lib.hid (show cleanS l = (cutS l).flatten from rfl)
  obtain ⟨T, hT⟩ : ∃ T, T = tx l := ⟨_, rfl⟩
  rw [← hT] at HC ⊢
  clear hT
  obtain ⟨L, hL⟩ : ∃ L, L = cutS l := ⟨_, rfl⟩
  rw [← hL] at HC HLN HSH HV
  clear hL hl
  go_enter Tryz.func60, Tryz.ntmps60
  go_wp2_with (first | (go_at_call 21; fail))
  go_at_call 21
  refine (HC.out _).mono ?_
  rintro e w1 ⟨v, rfl, hv, hb⟩
  obtain ⟨x, c, rfl⟩ := ownsRow_is hv
  have hrow := fun j (hj : j < L.length) => rowK_get hv j hj
  have HB := Lib.hid hb
  have HR := Lib.hid hrow
  obtain ⟨n, hn⟩ : ∃ n, n = L.length := ⟨_, rfl⟩
  have HN := Lib.hid hn
  rw [← hn]
  have hn9 : n ≤ 900001 := by have := HLN.out; have := HLL.out; omega
  clear hv hb hrow hn
  go_wp2
  have e0 : (⟨#[]⟩ : ByteArray) = tx (L.take 0).flatten := rfl
  rw [e0]
  clear e0
  generalize hZ : tx (L.take 0).flatten = Z
  have HZ := Lib.hid hZ
  clear hZ
  go_loopw [3, 5] (fun t i wr => ∃ (j : Nat) (S : ByteArray), i = .int .i64 (j : Int) ∧ j ≤ n ∧ t = .string S ∧ Hid (S = tx (L.take j).flatten) ∧ w1 = wr) (fun _ i _ => n - (intOf i).toNat)
  case atStart => exact ⟨0, Z, rfl, Nat.zero_le _, rfl, Lib.hid HZ.out.symm, rfl⟩
  case round =>
    obtain ⟨j, S, rfl, hj, rfl, HS, rfl⟩ := hrel
    have i1 : (0 : Int) ≤ (j : Int) := by omega
    by_cases hlt : j < n
    · have i2 : (j : Int) < (n : Int) := by omega
      obtain ⟨g, rfl, hg, hcap, hget⟩ := HR.out j (by have := HN.out; omega)
      have ce := hget j (by have := HN.out; omega)
      have HF := Lib.hid (flatten_take L j (by have := HN.out; omega))
      have hsz : S.size ≤ 57600064 := by
        rw [HS.out, tx_sizeK]
        have h1 := flat_short (L.take j) (fun c hc => HSH.out c (List.mem_of_mem_take hc))
        simp at h1 ⊢
        omega
      have hx64 : (tx (L.getD j [])).size ≤ 64 := by rw [tx_sizeK]; exact getD_lenK HSH.out j
      obtain ⟨X, hX⟩ : ∃ X, X = tx (L.getD j []) := ⟨_, rfl⟩
      have HX := Lib.hid hX
      rw [← hX] at ce hx64
      clear hX hget hg
      go_wp2
      go_roundw
      case rel => exact ⟨j + 1, _, by go_num, by omega, rfl, Lib.hid (by rw [HF.out, HS.out, HX.out]; apply ByteArray.ext; simp [tx]), by trivial⟩
      case measure => simp [intOf]; omega
    · have i2 : ¬ (j : Int) < (n : Int) := by omega
      have hE : S = tx (cleanS l) := by rw [HS.out, HV.out, List.take_of_length_le (by have := HN.out; omega)]
      have HE := Lib.hid hE
      clear hE
      go_wp2
      go_ret
      exact ⟨ret_str HE.out, HB.out⟩
set_option maxRecDepth 100000 in
set_option maxHeartbeats 4000000 in
theorem rflat (l : Bs) (hl : l.length ≤ 900000) (w : World) : Calls Tryz.prog 34 #[.string (tx l)] w fun e w' => e = .returned (.string (tx (flatS l))) ∧ Below w.heap.size w w' := by
  obtain ⟨cap, W1, hcv, hcap, hfb, hbl, hsz⟩ := conv_bytes2 w l
  have HCL := Lib.hid (fun W => rclean (l.map flatB) (by simpa using hl) W)
  have HLL := Lib.hid hl
  obtain ⟨q, hq⟩ : ∃ q, q = w.heap.size := ⟨_, rfl⟩
  rw [← hq] at hcv hfb hbl
  have HQ := Lib.hid hq
  have H1 : Hid (FB W1 q (part l 0) ∧ Below q w W1) := Lib.hid ⟨hfb, hbl⟩
  obtain ⟨T, hT⟩ : ∃ T, T = tx l := ⟨_, rfl⟩
  rw [← hT] at hcv ⊢
  obtain ⟨n, hn⟩ : ∃ n, n = l.length := ⟨_, rfl⟩
  have HN := Lib.hid hn
  rw [← hn] at hcv hcap hl
  clear hT hfb hbl hsz hq hn
  go_enter Tryz.func34, Tryz.ntmps34
  go_wp2
  go_loopw [4] (fun i wr => ∃ k : Nat, i = .int .i64 k ∧ k ≤ n ∧ Hid (FB wr q (part l k) ∧ Below q w wr)) (fun i _ => n - (intOf i).toNat)
  case atStart => exact ⟨0, rfl, by omega, H1⟩
  case round =>
    clear H1 hcv
    obtain ⟨k, rfl, hk, HS⟩ := hrel
    by_cases hlt : k < n
    · have hkl : k < l.length := by have := HN.out; omega
      have c1 := HS.out.1.at_ k (by rw [part_len]; exact hkl)
      have f1 := HS.out.1.fr k (by rw [part_len]; exact hkl)
      rw [part_at l k hkl] at c1
      obtain ⟨c, hc⟩ : ∃ c, c = l.getD k 0 := ⟨_, rfl⟩
      have HST := Lib.hid (part_step l k hkl)
      have HSM := Lib.hid (part_same l k hkl)
      have HSE := Lib.hid (HS.out.1.set k (by rw [part_len]; exact hkl) 32)
      rw [← hc] at c1 HST HSM
      clear hc
      have i1 : (0 : Int) ≤ (k : Int) := by omega
      have i2 : (k : Int) < (n : Int) := by omega
      by_cases h9 : c = 9 ∨ c = 10 ∨ c = 13
      · have hf : flatB c = 32 := by unfold flatB; rw [if_pos h9]
        have HNX : Hid (FB (wr.setCell ⟨q, k, none⟩ (.int .u8 32)) q (part l (k + 1)) ∧ Below q w (wr.setCell ⟨q, k, none⟩ (.int .u8 32))) := Lib.hid ⟨by rw [← HST.out, hf]; exact HSE.out, HS.out.2.setCell (p := ⟨q, k, none⟩) (Nat.le_refl _) _⟩
        clear HST HSM HSE hf
        rcases h9 with e | e | e
        all_goals
          subst e
          go_wp2
          go_roundw
          case rel => exact ⟨k + 1, by go_num, by omega, HNX⟩
          case measure => simp [intOf]; omega
      · have hf : flatB c = c := by unfold flatB; rw [if_neg h9]
        have HNX : Hid (FB wr q (part l (k + 1)) ∧ Below q w wr) := Lib.hid ⟨by rw [HSM.out hf]; exact HS.out.1, HS.out.2⟩
        have nt : ∀ d : UInt8, c ≠ d → ((c.toNat : Int) == (d.toNat : Int)) = false := fun d hd => by
          rw [beq_eq_false_iff_ne]
          intro q
          exact hd (UInt8.toNat_inj.1 (by omega))
        have b1 : ((c.toNat : Int) == 9) = false := nt 9 (fun e => h9 (.inl e))
        have b2 : ((c.toNat : Int) == 10) = false := nt 10 (fun e => h9 (.inr (.inl e)))
        have b3 : ((c.toNat : Int) == 13) = false := nt 13 (fun e => h9 (.inr (.inr e)))
        clear HST HSM HSE hf nt h9
        go_wp2
        go_roundw
        case rel => exact ⟨k + 1, by go_num, by omega, HNX⟩
        case measure => simp [intOf]; omega
    · obtain rfl : k = n := by omega
      have hM : part l k = l.map flatB := by unfold part; rw [HN.out]; simp
      have hcv2 : (convert 50 9 (.slice (some ⟨q, 0, none⟩) k cap)).run Tryz.prog wr = .ok (.string (tx (l.map flatB))) wr := by
        have h := run_convert_bytes_back wr 50 9 5 ⟨q, 0, none⟩ cap (l.map flatB) Tryz.underlying50 Tryz.underlying5 Tryz.underlying9 (fun j hj => by
          have h4 : (⟨q, 0, none⟩ : Addr).add j = ⟨q, j, none⟩ := by by_cases e : j = 0 <;> simp [Addr.add, e]
          have h5 := HS.out.1.at_ j (by rw [hM]; exact hj)
          rw [hM, List.getD_eq_getElem?_getD, List.getElem?_eq_getElem hj] at h5
          rw [h4]
          exact h5)
        rw [List.length_map, ← HN.out] at h
        exact h
      obtain ⟨T2, hT2⟩ : ∃ T2, T2 = tx (l.map flatB) := ⟨_, rfl⟩
      rw [← hT2] at hcv2 HCL
      clear hT2 hM
      go_wp2_with (first | (go_at_call 60; fail))
      go_at_call 60
      refine (HCL.out _).mono ?_
      rintro e w3 ⟨rfl, hb3⟩
      have hB := HS.out.2
      rw [HQ.out] at hB
      have HB3 := Lib.hid (hB.trans (below_le hb3 hB.size))
      clear hb3 hB hcv2
      go_wp2
      go_ret
      exact ⟨rfl, HB3.out⟩
end Go.Proofs.YtdehjofmangmbaaGreat
