/- Walk: Flat. -/
import Derived.Test.YtdomglkcfecnnaaGreatHC
namespace Go.Proofs.YtdomglkcfecnnaaGreat
open Go.RowKit Go.Shelf
/-- Bytes in memory that may be written. -/
structure FB (W : World) (q : Nat) (l : Bs) : Prop where
  at_ : ∀ j, j < l.length → W.cell? ⟨q, j, none⟩ = some (.int .u8 (l.getD j 0).toNat)
  fr : ∀ j, j < l.length → W.frozen? ⟨q, j, none⟩ = false
theorem conv_bytes2 (w : World) (l : Bs) : ∃ cap W1, (convert 9 37 (.string (tx l))).run Tryz.prog w = .ok (.slice (some ⟨w.heap.size, 0, none⟩) l.length cap) W1 ∧ l.length ≤ cap ∧ FB W1 w.heap.size l ∧ Below w.heap.size w W1 ∧ W1.heap.size = w.heap.size + 1 := by
  have h := Lib.run_convert_string_bytes (P := Tryz.prog) w 9 37 5 (tx l) Tryz.underlying9 Tryz.underlying37 Tryz.underlying5
  have hs : (tx l).size = l.length := by simp [tx, ByteArray.size]
  rw [hs] at h
  refine ⟨_, _, h, grownCap_ge _ _ _ _, ⟨fun j hj => ?_, fun j hj => ?_⟩, ?_, Lib.bytesWorld_size _ _ _⟩
  · exact Lib.bytesWorld_cell w 5 (tx l) j (by rw [hs]; exact hj)
  · have h1 := Lib.bytesWorld_at_new w 5 (tx l)
    have h2 : l.length ≤ (Lib.bytesCells w 5 (tx l)).size := by
      unfold Lib.bytesCells
      simp [tx]
    simp [World.frozen?, h1]
    omega
  · exact ⟨rfl, rfl, rfl, by rw [Lib.bytesWorld_size]; omega, fun j hj => Lib.bytesWorld_at_old w 5 (tx l) j hj⟩
def flatB (c : UInt8) : UInt8 := if c = 9 ∨ c = 10 ∨ c = 13 then 32 else c
def flatS (l : Bs) : Bs := cleanS (l.map flatB)
theorem FB.set {W : World} {q : Nat} {l : Bs} (h : FB W q l) (k : Nat) (hk : k < l.length) (c : UInt8) : FB (W.setCell ⟨q, k, none⟩ (.int .u8 c.toNat)) q (l.set k c) := by
  refine ⟨fun j hj => ?_, fun j hj => ?_⟩
  · rw [List.length_set] at hj
    by_cases e : j = k
    · subst e
      rw [World.cell?_setCell_same _ _ _ (h.at_ j hj), List.getD_eq_getElem?_getD, List.getElem?_set_self hj]
      rfl
    · rw [World.cell?_setCell_other _ _ _ _ (fun q => e (by injection q with _ q2 _; exact q2.symm)), h.at_ j hj, List.getD_eq_getElem?_getD, List.getD_eq_getElem?_getD, List.getElem?_set_ne (Ne.symm e)]
  · rw [List.length_set] at hj
    rw [World.frozen?_setCell]
    exact h.fr j hj
/-- The bytes turned so far. -/
def part (l : Bs) (k : Nat) : Bs := (l.take k).map flatB ++ l.drop k
theorem part_len (l : Bs) (k : Nat) : (part l k).length = l.length := by unfold part; simp; omega
theorem part_at (l : Bs) (k : Nat) (hk : k < l.length) : (part l k).getD k 0 = l.getD k 0 := by
  unfold part
  rw [List.getD_eq_getElem?_getD, List.getElem?_append_right (by simp; omega)]
  simp
  rw [Nat.min_eq_left (by omega), Nat.sub_self, Nat.add_zero]
theorem part_step (l : Bs) (k : Nat) (hk : k < l.length) : (part l k).set k (flatB (l.getD k 0)) = part l (k + 1) := by
  unfold part
  have h1 : ((l.take k).map flatB).length = k := by simp; omega
  rw [List.set_append_right _ _ (by omega), h1, Nat.sub_self, List.drop_eq_getElem_cons hk, List.set_cons_zero, List.take_succ_eq_append_getElem hk, List.getD_eq_getElem?_getD, List.getElem?_eq_getElem hk, List.map_append, List.map_cons, List.map_nil, List.append_assoc]
  rfl
theorem part_same (l : Bs) (k : Nat) (hk : k < l.length) (h : flatB (l.getD k 0) = l.getD k 0) : part l (k + 1) = part l k := by
  rw [← part_step l k hk, h, ← part_at l k hk, List.getD_eq_getElem?_getD, List.getElem?_eq_getElem (by rw [part_len]; exact hk)]
  simp
set_option maxRecDepth 100000 in
set_option maxHeartbeats 4000000 in
theorem wflat (l : Bs) (hl : l.length ≤ 900000) (w : World) : Calls Tryz.prog 65 #[.string (tx l)] w fun e w' => e = .returned (.string (tx (flatS l))) ∧ Below w.heap.size w w' := by
  obtain ⟨cap, W1, hcv, hcap, hfb, hbl, hsz⟩ := conv_bytes2 w l
  have HCL := Lib.hid (fun W => wclean (l.map flatB) (by simpa using hl) W)
  have HLL := Lib.hid hl
  obtain ⟨q, hq⟩ : ∃ q, q = w.heap.size := ⟨_, rfl⟩
  rw [← hq] at hcv hfb hbl
  have HQ := Lib.hid hq
  have H1 : Hid (FB W1 q (part l 0) ∧ Below q w W1) := Lib.hid ⟨hfb, hbl⟩
  obtain ⟨T, hT⟩ : ∃ T, T = tx l := ⟨_, rfl⟩
  rw [← hT] at hcv ⊢
  obtain ⟨n, hn⟩ : ∃ n, n = l.length := ⟨_, rfl⟩
  have HN := Lib.hid hn
  rw [← hn] at hcv hcap hl
  clear hT hfb hbl hsz hq hn
  go_enter Tryz.func65, Tryz.ntmps65
  go_wp2
  go_loopw [10] (fun i wr => ∃ k : Nat, i = .int .i64 k ∧ k ≤ n ∧ Hid (FB wr q (part l k) ∧ Below q w wr)) (fun i _ => n - (intOf i).toNat)
  case atStart => exact ⟨0, rfl, by omega, H1⟩
  case round =>
    clear H1 hcv
    obtain ⟨k, rfl, hk, HS⟩ := hrel
    by_cases hlt : k < n
    · have hkl : k < l.length := by have := HN.out; omega
      have c1 := HS.out.1.at_ k (by rw [part_len]; exact hkl)
      have f1 := HS.out.1.fr k (by rw [part_len]; exact hkl)
      rw [part_at l k hkl] at c1
      obtain ⟨c, hc⟩ : ∃ c, c = l.getD k 0 := ⟨_, rfl⟩
      have HST := Lib.hid (part_step l k hkl)
      have HSM := Lib.hid (part_same l k hkl)
      have HSE := Lib.hid (HS.out.1.set k (by rw [part_len]; exact hkl) 32)
      rw [← hc] at c1 HST HSM
      clear hc
      have i1 : (0 : Int) ≤ (k : Int) := by omega
      have i2 : (k : Int) < (n : Int) := by omega
      by_cases h9 : c = 9 ∨ c = 10 ∨ c = 13
      · have hf : flatB c = 32 := by unfold flatB; rw [if_pos h9]
        have HNX : Hid (FB (wr.setCell ⟨q, k, none⟩ (.int .u8 32)) q (part l (k + 1)) ∧ Below q w (wr.setCell ⟨q, k, none⟩ (.int .u8 32))) := Lib.hid ⟨by rw [← HST.out, hf]; exact HSE.out, HS.out.2.setCell (p := ⟨q, k, none⟩) (Nat.le_refl _) _⟩
        clear HST HSM HSE hf
        rcases h9 with e | e | e
        all_goals
          subst e
          go_wp2
          go_roundw
          case rel => exact ⟨k + 1, by go_num, by omega, HNX⟩
          case measure => simp [intOf]; omega
      · have hf : flatB c = c := by unfold flatB; rw [if_neg h9]
        have HNX : Hid (FB wr q (part l (k + 1)) ∧ Below q w wr) := Lib.hid ⟨by rw [HSM.out hf]; exact HS.out.1, HS.out.2⟩
        have nt : ∀ d : UInt8, c ≠ d → ((c.toNat : Int) == (d.toNat : Int)) = false := fun d hd => by
          rw [beq_eq_false_iff_ne]
          intro q
          exact hd (UInt8.toNat_inj.1 (by omega))
        have b1 : ((c.toNat : Int) == 9) = false := nt 9 (fun e => h9 (.inl e))
        have b2 : ((c.toNat : Int) == 10) = false := nt 10 (fun e => h9 (.inr (.inl e)))
        have b3 : ((c.toNat : Int) == 13) = false := nt 13 (fun e => h9 (.inr (.inr e)))
        clear HST HSM HSE hf nt h9
        go_wp2
        go_roundw
        case rel => exact ⟨k + 1, by go_num, by omega, HNX⟩
        case measure => simp [intOf]; omega
    · obtain rfl : k = n := by omega
      have hM : part l k = l.map flatB := by unfold part; rw [HN.out]; simp
      have hcv2 : (convert 37 9 (.slice (some ⟨q, 0, none⟩) k cap)).run Tryz.prog wr = .ok (.string (tx (l.map flatB))) wr := by
        have h := run_convert_bytes_back wr 37 9 5 ⟨q, 0, none⟩ cap (l.map flatB) Tryz.underlying37 Tryz.underlying5 Tryz.underlying9 (fun j hj => by
          have h4 : (⟨q, 0, none⟩ : Addr).add j = ⟨q, j, none⟩ := by by_cases e : j = 0 <;> simp [Addr.add, e]
          have h5 := HS.out.1.at_ j (by rw [hM]; exact hj)
          rw [hM, List.getD_eq_getElem?_getD, List.getElem?_eq_getElem hj] at h5
          rw [h4]
          exact h5)
        rw [List.length_map, ← HN.out] at h
        exact h
      obtain ⟨T2, hT2⟩ : ∃ T2, T2 = tx (l.map flatB) := ⟨_, rfl⟩
      rw [← hT2] at hcv2 HCL
      clear hT2 hM
      go_wp2_with (first | (go_at_call 79; fail))
      go_at_call 79
      refine (HCL.out _).mono ?_
      rintro e w3 ⟨rfl, hb3⟩
      have hB := HS.out.2
      rw [HQ.out] at hB
      have HB3 := Lib.hid (hB.trans (below_le hb3 hB.size))
      clear hb3 hB hcv2
      go_wp2
      go_ret
      exact ⟨rfl, HB3.out⟩
end Go.Proofs.YtdomglkcfecnnaaGreat
