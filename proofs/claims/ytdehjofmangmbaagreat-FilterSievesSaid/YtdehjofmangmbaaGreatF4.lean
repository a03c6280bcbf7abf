/- Walks: the reference's Fold; cut and Clusters. -/
import Derived.Test.YtdehjofmangmbaaGreatF3
import Derived.Deep.Onto
namespace Go.Proofs.YtdehjofmangmbaaGreat
open Go.RowKit Go.Shelf
theorem low_up2 {c : UInt8} (h1 : 65 ≤ c.toNat) (h2 : c.toNat ≤ 90) : ((lowB c).toNat : Int) = (c.toNat : Int) + 32 := by
  rw [low_up h1 h2]; omega
set_option maxRecDepth 100000 in
set_option maxHeartbeats 4000000 in
theorem rfold (l : Bs) (hl : l.length ≤ 10000) (w : World) : Calls Tryz.prog 11 #[.string (tx l)] w fun e w' => e = .returned (.string (tx (foldS l))) ∧ Below w.heap.size w w' := by
  have HFL := Lib.hid (fun W => rflat l (by omega) W)
  have HLF : Hid ((flatS l).length ≤ 900000) := Lib.hid (by have := flatS_len l; omega)
  have HFO : Hid (foldS l = (flatS l).map lowB) := Lib.hid rfl
  obtain ⟨m, hm⟩ : ∃ m, m = flatS l := ⟨_, rfl⟩
  rw [← hm] at HFL HLF HFO
  obtain ⟨T, hT⟩ : ∃ T, T = tx l := ⟨_, rfl⟩
  rw [← hT] at HFL ⊢
  clear hm hT hl
  go_enter Tryz.func11, Tryz.ntmps11
  go_wp2_with (first | (go_at_call 34; fail))
  go_at_call 34
  refine (HFL.out _).mono ?_
  rintro e w1 ⟨rfl, hb1⟩
  obtain ⟨cap, W1, hcv, hcap, hfb, hbl, hsz⟩ := conv_bytes2 w1 m
  obtain ⟨q, hq⟩ : ∃ q, q = w1.heap.size := ⟨_, rfl⟩
  rw [← hq] at hcv hfb hbl
  have HQ : Hid (w.heap.size ≤ q) := Lib.hid (by rw [hq]; exact hb1.size)
  have hbl' : Below q w1 W1 := hbl
  have H1 : Hid (FB W1 q (lowP m 0) ∧ Below w.heap.size w W1) := Lib.hid ⟨hfb, hb1.trans (below_le hbl' (by rw [hq]; exact hb1.size))⟩
  obtain ⟨T2, hT2⟩ : ∃ T, T = tx m := ⟨_, rfl⟩
  rw [← hT2] at hcv ⊢
  obtain ⟨n, hn⟩ : ∃ n, n = m.length := ⟨_, rfl⟩
  have HN := Lib.hid hn
  have hl := HLF.out
  rw [← hn] at hcv hcap hl
  clear hT2 hfb hbl hbl' hsz hq hn hb1 HFL
  go_wp2
  go_loopw [4] (fun i wr => ∃ k : Nat, i = .int .i64 k ∧ k ≤ n ∧ Hid (FB wr q (lowP m k) ∧ Below w.heap.size w wr)) (fun i _ => n - (intOf i).toNat)
  case atStart => exact ⟨0, rfl, by omega, H1⟩
  case round =>
    clear H1 hcv
    obtain ⟨k, rfl, hk, HS⟩ := hrel
    by_cases hlt : k < n
    · have hkl : k < m.length := by have := HN.out; omega
      have c1 := HS.out.1.at_ k (by rw [lowP_len]; exact hkl)
      have f1 := HS.out.1.fr k (by rw [lowP_len]; exact hkl)
      rw [lowP_at m k hkl] at c1
      obtain ⟨c, hc⟩ : ∃ c, c = m.getD k 0 := ⟨_, rfl⟩
      have HST := Lib.hid (lowP_step m k hkl)
      have HSM := Lib.hid (lowP_same m k hkl)
      have HSE := Lib.hid (HS.out.1.set k (by rw [lowP_len]; exact hkl) (lowB c))
      rw [← hc] at c1 HST HSM
      clear hc
      have i1 : (0 : Int) ≤ (k : Int) := by omega
      have i2 : (k : Int) < (n : Int) := by omega
      have hc8 : c.toNat < 256 := c.toNat_lt
      by_cases h9 : 65 ≤ c.toNat ∧ c.toNat ≤ 90
      · have hup := low_up2 h9.1 h9.2
        have HNX : Hid (FB (wr.setCell ⟨q, k, none⟩ (.int .u8 ((c.toNat : Int) + 32))) q (lowP m (k + 1)) ∧ Below w.heap.size w (wr.setCell ⟨q, k, none⟩ (.int .u8 ((c.toNat : Int) + 32)))) := Lib.hid ⟨by rw [← HST.out, ← hup]; exact HSE.out, HS.out.2.setCell (p := ⟨q, k, none⟩) HQ.out _⟩
        obtain ⟨C, hC⟩ : ∃ C, C = c.toNat := ⟨_, rfl⟩
        rw [← hC] at c1 HNX h9 hc8
        have h91 := h9.1
        have h92 := h9.2
        clear HST HSM HSE hup hC h9
        go_wp2
        go_roundw
        case rel => exact ⟨k + 1, by go_num, by omega, HNX⟩
        case measure => simp [intOf]; omega
      · have HNX : Hid (FB wr q (lowP m (k + 1)) ∧ Below w.heap.size w wr) := Lib.hid ⟨by rw [HSM.out (low_no h9)]; exact HS.out.1, HS.out.2⟩
        obtain ⟨C, hC⟩ : ∃ C, C = c.toNat := ⟨_, rfl⟩
        rw [← hC] at c1 h9 hc8
        clear HST HSM HSE hC
        by_cases h91 : 65 ≤ C
        · have h92 : ¬ C ≤ 90 := fun h => h9 ⟨h91, h⟩
          clear h9
          go_wp2
          go_roundw
          case rel => exact ⟨k + 1, by go_num, by omega, HNX⟩
          case measure => simp [intOf]; omega
        · clear h9
          go_wp2
          go_roundw
          case rel => exact ⟨k + 1, by go_num, by omega, HNX⟩
          case measure => simp [intOf]; omega
    · obtain rfl : k = n := by omega
      have hM : lowP m k = m.map lowB := by unfold lowP; rw [HN.out]; simp
      have hcv2 : (convert 50 9 (.slice (some ⟨q, 0, none⟩) k cap)).run Tryz.prog wr = .ok (.string (tx (m.map lowB))) wr := by
        have h := run_convert_bytes_back wr 50 9 5 ⟨q, 0, none⟩ cap (m.map lowB) Tryz.underlying50 Tryz.underlying5 Tryz.underlying9 (fun j hj => by
          have h4 : (⟨q, 0, none⟩ : Addr).add j = ⟨q, j, none⟩ := by by_cases e : j = 0 <;> simp [Addr.add, e]
          have h5 := HS.out.1.at_ j (by rw [hM]; exact hj)
          rw [hM, List.getD_eq_getElem?_getD, List.getElem?_eq_getElem hj] at h5
          rw [h4]
          exact h5)
        rw [List.length_map, ← HN.out] at h
        exact h
      rw [← HFO.out] at hcv2
      clear hM
      go_wp2
      go_ret
      exact ⟨rfl, HS.out.2⟩
/-- What cut gives. -/
def ClEnd (l : Bs) (w : World) (e : Ending) (w' : World) : Prop := ∃ v, e = .returned v ∧ w'.ownsRow w.heap.size 9 1 v (clS l).length (strs (clS l)) ∧ Below w.heap.size w w'
theorem wcl (l : Bs) (hl : l.length ≤ 10000) (w : World) : Calls Tryz.prog 30 #[.string (tx l)] w (ClEnd l w) := by
  have HF := Lib.hid (fun W => wfold l hl W)
  have HC := Lib.hid (fun W => wcutS (foldS l) (by have := foldS_len l; omega) W)
  unfold CutEnd at HC
  unfold ClEnd
  have HV : Hid (clS l = cutS (foldS l)) := Lib.hid rfl
  rw [← HV.out] at HC
  clear HV
  generalize tx l = T at HF ⊢
  generalize tx (foldS l) = U at HF HC
  go_enter Tryz.func30, Tryz.ntmps30
  go_wp2_with (first | (go_at_call 10; fail))
  go_at_call 10
  refine (HF.out _).mono ?_
  rintro e w1 ⟨rfl, hb1⟩
  have HB1 := Lib.hid hb1
  clear hb1
  go_wp2_with (first | (go_at_call 54; fail))
  go_at_call 54
  refine (HC.out _).mono ?_
  rintro e w2 ⟨v, rfl, hv, hb2⟩
  have HR := Lib.hid (World.ownsRow.mono hv HB1.out.size)
  have HB2 := Lib.hid (HB1.out.trans (below_le hb2 HB1.out.size))
  clear hv hb2
  go_wp2
  go_ret
  exact ⟨v, rfl, HR.out, HB2.out⟩
theorem rcl (l : Bs) (hl : l.length ≤ 10000) (w : World) : Calls Tryz.prog 28 #[.string (tx l)] w (ClEnd l w) := by
  have HF := Lib.hid (fun W => rfold l hl W)
  have HC := Lib.hid (fun W => rcut (foldS l) (by have := foldS_len l; omega) W)
  unfold CutEnd at HC
  unfold ClEnd
  have HV : Hid (clS l = cutS (foldS l)) := Lib.hid rfl
  rw [← HV.out] at HC
  clear HV
  generalize tx l = T at HF ⊢
  generalize tx (foldS l) = U at HF HC
  go_enter Tryz.func28, Tryz.ntmps28
  go_wp2_with (first | (go_at_call 11; fail))
  go_at_call 11
  refine (HF.out _).mono ?_
  rintro e w1 ⟨rfl, hb1⟩
  have HB1 := Lib.hid hb1
  clear hb1
  go_wp2_with (first | (go_at_call 21; fail))
  go_at_call 21
  refine (HC.out _).mono ?_
  rintro e w2 ⟨v, rfl, hv, hb2⟩
  have HR := Lib.hid (World.ownsRow.mono hv HB1.out.size)
  have HB2 := Lib.hid (HB1.out.trans (below_le hb2 HB1.out.size))
  clear hv hb2
  go_wp2
  go_ret
  exact ⟨v, rfl, HR.out, HB2.out⟩
end Go.Proofs.YtdehjofmangmbaaGreat
