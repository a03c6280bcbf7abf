/- Walks: Fold. -/
import Derived.Test.YtdehjofmangmbaaGreatF1
namespace Go.Proofs.YtdehjofmangmbaaGreat
open Go.RowKit Go.Shelf
/-- The bytes folded so far. -/
def lowP (l : Bs) (k : Nat) : Bs := (l.take k).map lowB ++ l.drop k
theorem lowP_len (l : Bs) (k : Nat) : (lowP l k).length = l.length := by unfold lowP; simp; omega
theorem lowP_at (l : Bs) (k : Nat) (hk : k < l.length) : (lowP l k).getD k 0 = l.getD k 0 := by
  unfold lowP
  rw [List.getD_eq_getElem?_getD, List.getElem?_append_right (by simp; omega)]
  simp
  rw [Nat.min_eq_left (by omega), Nat.sub_self, Nat.add_zero]
theorem lowP_step (l : Bs) (k : Nat) (hk : k < l.length) : (lowP l k).set k (lowB (l.getD k 0)) = lowP l (k + 1) := by
  unfold lowP
  have h1 : ((l.take k).map lowB).length = k := by simp; omega
  rw [List.set_append_right _ _ (by omega), h1, Nat.sub_self, List.drop_eq_getElem_cons hk, List.set_cons_zero, List.take_succ_eq_append_getElem hk, List.getD_eq_getElem?_getD, List.getElem?_eq_getElem hk, List.map_append, List.map_cons, List.map_nil, List.append_assoc]
  rfl
theorem lowP_same (l : Bs) (k : Nat) (hk : k < l.length) (h : lowB (l.getD k 0) = l.getD k 0) : lowP l (k + 1) = lowP l k := by
  rw [← lowP_step l k hk, h, ← lowP_at l k hk, List.getD_eq_getElem?_getD, List.getElem?_eq_getElem (by rw [lowP_len]; exact hk)]
  simp
theorem low_up {c : UInt8} (h1 : 65 ≤ c.toNat) (h2 : c.toNat ≤ 90) : ((lowB c).toNat : Int) = (c.toNat : Int) - 65 + 97 := by
  unfold lowB
  rw [if_pos ⟨h1, h2⟩, UInt8.toNat_add]
  have : (32 : UInt8).toNat = 32 := rfl
  omega
theorem low_no {c : UInt8} (h : ¬ (65 ≤ c.toNat ∧ c.toNat ≤ 90)) : lowB c = c := by unfold lowB; rw [if_neg h]
theorem flatS_len (l : Bs) : (flatS l).length ≤ 64 * (l.length + 1) := by
  have := cleanS_len (l.map flatB)
  simpa [flatS] using this
theorem foldS_len (l : Bs) : (foldS l).length ≤ 64 * (l.length + 1) := by
  have := flatS_len l
  simpa [foldS] using this
set_option maxRecDepth 100000 in
set_option maxHeartbeats 4000000 in
theorem wfold (l : Bs) (hl : l.length ≤ 10000) (w : World) : Calls Tryz.prog 10 #[.string (tx l)] w fun e w' => e = .returned (.string (tx (foldS l))) ∧ Below w.heap.size w w' := by
  have HFL := Lib.hid (fun W => wflat l (by omega) W)
  have HLF : Hid ((flatS l).length ≤ 900000) := Lib.hid (by have := flatS_len l; omega)
  have HFO : Hid (foldS l = (flatS l).map lowB) := Lib.hid rfl
  obtain ⟨m, hm⟩ : ∃ m, m = flatS l := ⟨_, rfl⟩
  rw [← hm] at HFL HLF HFO
  obtain ⟨T, hT⟩ : ∃ T, T = tx l := ⟨_, rfl⟩
  rw [← hT] at HFL ⊢
  clear hm hT hl
  go_enter Tryz.func10, Tryz.ntmps10
  go_wp2_with (first | (go_at_call 33; fail))
  go_at_call 33
  refine (HFL.out _).mono ?_
  rintro e w1 ⟨rfl, hb1⟩
  obtain ⟨cap, W1, hcv, hcap, hfb, hbl, hsz⟩ := conv_bytes2 w1 m
  obtain ⟨q, hq⟩ : ∃ q, q = w1.heap.size := ⟨_, rfl⟩
  rw [← hq] at hcv hfb hbl
  have HQ : Hid (w.heap.size ≤ q) := Lib.hid (by rw [hq]; exact hb1.size)
  have hbl' : Below q w1 W1 := hbl
  have H1 : Hid (FB W1 q (lowP m 0) ∧ Below w.heap.size w W1) := Lib.hid ⟨hfb, hb1.trans (below_le hbl' (by rw [hq]; exact hb1.size))⟩
  obtain ⟨T2, hT2⟩ : ∃ T, T = tx m := ⟨_, rfl⟩
  rw [← hT2] at hcv ⊢
  obtain ⟨n, hn⟩ : ∃ n, n = m.length := ⟨_, rfl⟩
  have HN := Lib.hid hn
  have hl := HLF.out
  rw [← hn] at hcv hcap hl
  clear hT2 hfb hbl hbl' hsz hq hn hb1 HFL
  go_wp2
  go_loopw [11] (fun i wr => ∃ k : Nat, i = .int .i64 k ∧ k ≤ n ∧ Hid (FB wr q (lowP m k) ∧ Below w.heap.size w wr)) (fun i _ => n - (intOf i).toNat)
  case atStart => exact ⟨0, rfl, by omega, H1⟩
  case round =>
    clear H1 hcv
    obtain ⟨k, rfl, hk, HS⟩ := hrel
    by_cases hlt : k < n
    · have hkl : k < m.length := by have := HN.out; omega
      have c1 := HS.out.1.at_ k (by rw [lowP_len]; exact hkl)
      have f1 := HS.out.1.fr k (by rw [lowP_len]; exact hkl)
      rw [lowP_at m k hkl] at c1
      obtain ⟨c, hc⟩ : ∃ c, c = m.getD k 0 := ⟨_, rfl⟩
      have HST := Lib.hid (lowP_step m k hkl)
      have HSM := Lib.hid (lowP_same m k hkl)
      have HSE := Lib.hid (HS.out.1.set k (by rw [lowP_len]; exact hkl) (lowB c))
      rw [← hc] at c1 HST HSM
      clear hc
      have i1 : (0 : Int) ≤ (k : Int) := by omega
      have i2 : (k : Int) < (n : Int) := by omega
      have hc8 : c.toNat < 256 := c.toNat_lt
      by_cases h9 : 65 ≤ c.toNat ∧ c.toNat ≤ 90
      · have hup := low_up h9.1 h9.2
        have HNX : Hid (FB (wr.setCell ⟨q, k, none⟩ (.int .u8 ((c.toNat : Int) - 65 + 97))) q (lowP m (k + 1)) ∧ Below w.heap.size w (wr.setCell ⟨q, k, none⟩ (.int .u8 ((c.toNat : Int) - 65 + 97)))) := Lib.hid ⟨by rw [← HST.out, ← hup]; exact HSE.out, HS.out.2.setCell (p := ⟨q, k, none⟩) HQ.out _⟩
        obtain ⟨C, hC⟩ : ∃ C, C = c.toNat := ⟨_, rfl⟩
        rw [← hC] at c1 HNX h9 hc8
        have h91 := h9.1
        have h92 := h9.2
        clear HST HSM HSE hup hC h9
        go_wp2
        go_roundw
        case rel => exact ⟨k + 1, by go_num, by omega, HNX⟩
        case measure => simp [intOf]; omega
      · have HNX : Hid (FB wr q (lowP m (k + 1)) ∧ Below w.heap.size w wr) := Lib.hid ⟨by rw [HSM.out (low_no h9)]; exact HS.out.1, HS.out.2⟩
        obtain ⟨C, hC⟩ : ∃ C, C = c.toNat := ⟨_, rfl⟩
        rw [← hC] at c1 h9 hc8
        clear HST HSM HSE hC
        by_cases h91 : 65 ≤ C
        · have h92 : ¬ C ≤ 90 := fun h => h9 ⟨h91, h⟩
          clear h9
          go_wp2
          go_roundw
          case rel => exact ⟨k + 1, by go_num, by omega, HNX⟩
          case measure => simp [intOf]; omega
        · clear h9
          go_wp2
          go_roundw
          case rel => exact ⟨k + 1, by go_num, by omega, HNX⟩
          case measure => simp [intOf]; omega
    · obtain rfl : k = n := by omega
      have hM : lowP m k = m.map lowB := by unfold lowP; rw [HN.out]; simp
      have hcv2 : (convert 50 9 (.slice (some ⟨q, 0, none⟩) k cap)).run Tryz.prog wr = .ok (.string (tx (m.map lowB))) wr := by
        have h := run_convert_bytes_back wr 50 9 5 ⟨q, 0, none⟩ cap (m.map lowB) Tryz.underlying50 Tryz.underlying5 Tryz.underlying9 (fun j hj => by
          have h4 : (⟨q, 0, none⟩ : Addr).add j = ⟨q, j, none⟩ := by by_cases e : j = 0 <;> simp [Addr.add, e]
          have h5 := HS.out.1.at_ j (by rw [hM]; exact hj)
          rw [hM, List.getD_eq_getElem?_getD, List.getElem?_eq_getElem hj] at h5
          rw [h4]
          exact h5)
        rw [List.length_map, ← HN.out] at h
        exact h
      rw [← HFO.out] at hcv2
      clear hM
      go_wp2
      go_ret
      exact ⟨rfl, HS.out.2⟩
end Go.Proofs.YtdehjofmangmbaaGreat
