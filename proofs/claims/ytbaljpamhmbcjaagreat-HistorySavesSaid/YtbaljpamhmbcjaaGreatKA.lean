/- Walks: Clean, Flat, May, place of the references. -/
import Derived.Test.YtbaljpamhmbcjaaGreatK9
namespace Go.Proofs.YtbaljpamhmbcjaaGreat
open Go.RowKit Go.Shelf
theorem cut_get {W : World} {base : Nat} {v : Value} {L : List Bs} (h : W.ownsRow base 9 1 v L.length (strs L)) : ∃ x c, v = .slice x L.length c ∧ RowL W x c L := by
  obtain ⟨x, c, rfl⟩ := ownsRow_is h
  exact ⟨x, c, rfl, row_base h⟩
theorem flatten_take (L : List Bs) (j : Nat) (hj : j < L.length) : (L.take (j + 1)).flatten = (L.take j).flatten ++ L.getD j [] := by
  rw [List.take_succ_eq_append_getElem hj, List.flatten_append, List.getD_eq_getElem?_getD, List.getElem?_eq_getElem hj]
  simp
set_option maxRecDepth 100000 in
set_option maxHeartbeats 2000000 in
theorem rclean (l : Bs) (hl : l.length ≤ 900000) (w : World) : Calls Tryz.prog 56 #[.string (tx l)] w fun e w' => e = .returned (.string (tx (cleanS l))) ∧ Below w.heap.size w w' := by
  have HC := Lib.hid (fun W => rcut l hl W)
  unfold CutEnd at HC
  have HLN := Lib.hid (cutS_len l)
  have HSH := Lib.hid (cutS_short l)
  have HLL := Lib.hid hl
  have HV := Lib.hid (show cleanS l = (cutS l).flatten from rfl)
  obtain ⟨T, hT⟩ : ∃ T, T = tx l := ⟨_, rfl⟩
  rw [← hT] at HC ⊢
  clear hT
  obtain ⟨L, hL⟩ : ∃ L, L = cutS l := ⟨_, rfl⟩
  rw [← hL] at HC HLN HSH HV
  clear hL hl
  go_enter Tryz.func56, Tryz.ntmps56
  go_wp2_with (first | (go_at_call 39; fail))
  go_at_call 39
  refine (HC.out _).mono ?_
  rintro e w1 ⟨v, rfl, hv, hb⟩
  obtain ⟨x, c, rfl, hrow⟩ := cut_get hv
  have HB := Lib.hid hb
  have HR := Lib.hid hrow
  obtain ⟨n, hn⟩ : ∃ n, n = L.length := ⟨_, rfl⟩
  have HN := Lib.hid hn
  rw [← hn]
  have hn9 : n ≤ 900001 := by have := HLN.out; have := HLL.out; omega
  clear hv hb hrow hn
  go_wp2
  have e0 : (⟨#[]⟩ : ByteArray) = tx (L.take 0).flatten := rfl
  rw [e0]
  clear e0
  generalize hZ : tx (L.take 0).flatten = Z
  have HZ := Lib.hid hZ
  clear hZ
  go_loopw [3, 5] (fun t i wr => ∃ (j : Nat) (S : ByteArray), i = .int .i64 (j : Int) ∧ j ≤ n ∧ t = .string S ∧ Hid (S = tx (L.take j).flatten) ∧ w1 = wr) (fun _ i _ => n - (intOf i).toNat)
  case atStart => exact ⟨0, Z, rfl, Nat.zero_le _, rfl, Lib.hid HZ.out.symm, rfl⟩
  case round =>
    obtain ⟨j, S, rfl, hj, rfl, HS, rfl⟩ := hrel
    have i1 : (0 : Int) ≤ (j : Int) := by omega
    by_cases hlt : j < n
    · have i2 : (j : Int) < (n : Int) := by omega
      obtain ⟨g, rfl, hg, hcap, hget⟩ := HR.out.get j (by have := HN.out; omega)
      have ce := hget j (by have := HN.out; omega)
      have HF := Lib.hid (flatten_take L j (by have := HN.out; omega))
      have hsz : S.size ≤ 57600064 := by
        rw [HS.out, tx_size]
        have h1 := flat_short (L.take j) (fun c hc => HSH.out c (List.mem_of_mem_take hc))
        simp at h1 ⊢
        omega
      have hx64 : (tx (L.getD j [])).size ≤ 64 := by rw [tx_size]; exact getD_len HSH.out j
      obtain ⟨X, hX⟩ : ∃ X, X = tx (L.getD j []) := ⟨_, rfl⟩
      have HX := Lib.hid hX
      rw [← hX] at ce hx64
      clear hX hget hg
      go_wp2
      go_roundw
      case rel => exact ⟨j + 1, _, by go_num, by omega, rfl, Lib.hid (by rw [HF.out, HS.out, HX.out]; apply ByteArray.ext; simp [tx]), by trivial⟩
      case measure => simp [intOf]; omega
    · have i2 : ¬ (j : Int) < (n : Int) := by omega
      have hE : S = tx (cleanS l) := by rw [HS.out, HV.out, List.take_of_length_le (by have := HN.out; omega)]
      have HE := Lib.hid hE
      clear hE
      go_wp2
      go_ret
      exact ⟨ret_str HE.out, HB.out⟩
set_option maxRecDepth 100000 in
set_option maxHeartbeats 4000000 in
theorem rflat (l : Bs) (hl : l.length ≤ 900000) (w : World) : Calls Tryz.prog 38 #[.string (tx l)] w fun e w' => e = .returned (.string (tx (flatS l))) ∧ Below w.heap.size w w' := by
  obtain ⟨cap, W1, hcv, hcap, hfb, hbl, hsz⟩ := conv_bytes2 w l
  have HCL := Lib.hid (fun W => rclean (l.map flatB) (by simpa using hl) W)
  have HLL := Lib.hid hl
  obtain ⟨q, hq⟩ : ∃ q, q = w.heap.size := ⟨_, rfl⟩
  rw [← hq] at hcv hfb hbl
  have HQ := Lib.hid hq
  have H1 : Hid (FB W1 q (part l 0) ∧ Below q w W1) := Lib.hid ⟨hfb, hbl⟩
  obtain ⟨T, hT⟩ : ∃ T, T = tx l := ⟨_, rfl⟩
  rw [← hT] at hcv ⊢
  obtain ⟨n, hn⟩ : ∃ n, n = l.length := ⟨_, rfl⟩
  have HN := Lib.hid hn
  rw [← hn] at hcv hcap hl
  clear hT hfb hbl hsz hq hn
  go_enter Tryz.func38, Tryz.ntmps38
  go_wp2
  go_loopw [4] (fun i wr => ∃ k : Nat, i = .int .i64 k ∧ k ≤ n ∧ Hid (FB wr q (part l k) ∧ Below q w wr)) (fun i _ => n - (intOf i).toNat)
  case atStart => exact ⟨0, rfl, by omega, H1⟩
  case round =>
    clear H1 hcv
    obtain ⟨k, rfl, hk, HS⟩ := hrel
    by_cases hlt : k < n
    · have hkl : k < l.length := by have := HN.out; omega
      have c1 := HS.out.1.at_ k (by rw [part_len]; exact hkl)
      have f1 := HS.out.1.fr k (by rw [part_len]; exact hkl)
      rw [part_at l k hkl] at c1
      obtain ⟨c, hc⟩ : ∃ c, c = l.getD k 0 := ⟨_, rfl⟩
      have HST := Lib.hid (part_step l k hkl)
      have HSM := Lib.hid (part_same l k hkl)
      have HSE := Lib.hid (HS.out.1.set k (by rw [part_len]; exact hkl) 32)
      rw [← hc] at c1 HST HSM
      clear hc
      have i1 : (0 : Int) ≤ (k : Int) := by omega
      have i2 : (k : Int) < (n : Int) := by omega
      by_cases h9 : c = 9 ∨ c = 10 ∨ c = 13
      · have hf : flatB c = 32 := by unfold flatB; rw [if_pos h9]
        have HNX : Hid (FB (wr.setCell ⟨q, k, none⟩ (.int .u8 32)) q (part l (k + 1)) ∧ Below q w (wr.setCell ⟨q, k, none⟩ (.int .u8 32))) := Lib.hid ⟨by rw [← HST.out, hf]; exact HSE.out, HS.out.2.setCell (p := ⟨q, k, none⟩) (Nat.le_refl _) _⟩
        clear HST HSM HSE hf
        rcases h9 with e | e | e
        all_goals
          subst e
          go_wp2
          go_roundw
          case rel => exact ⟨k + 1, by go_num, by omega, HNX⟩
          case measure => simp [intOf]; omega
      · have hf : flatB c = c := by unfold flatB; rw [if_neg h9]
        have HNX : Hid (FB wr q (part l (k + 1)) ∧ Below q w wr) := Lib.hid ⟨by rw [HSM.out hf]; exact HS.out.1, HS.out.2⟩
        have nt : ∀ d : UInt8, c ≠ d → ((c.toNat : Int) == (d.toNat : Int)) = false := fun d hd => by
          rw [beq_eq_false_iff_ne]
          intro q
          exact hd (UInt8.toNat_inj.1 (by omega))
        have b1 : ((c.toNat : Int) == 9) = false := nt 9 (fun e => h9 (.inl e))
        have b2 : ((c.toNat : Int) == 10) = false := nt 10 (fun e => h9 (.inr (.inl e)))
        have b3 : ((c.toNat : Int) == 13) = false := nt 13 (fun e => h9 (.inr (.inr e)))
        clear HST HSM HSE hf nt h9
        go_wp2
        go_roundw
        case rel => exact ⟨k + 1, by go_num, by omega, HNX⟩
        case measure => simp [intOf]; omega
    · obtain rfl : k = n := by omega
      have hM : part l k = l.map flatB := by unfold part; rw [HN.out]; simp
      have hcv2 : (convert 72 9 (.slice (some ⟨q, 0, none⟩) k cap)).run Tryz.prog wr = .ok (.string (tx (l.map flatB))) wr := by
        have h := run_convert_bytes_back wr 72 9 5 ⟨q, 0, none⟩ cap (l.map flatB) Tryz.underlying72 Tryz.underlying5 Tryz.underlying9 (fun j hj => by
          have h4 : (⟨q, 0, none⟩ : Addr).add j = ⟨q, j, none⟩ := by by_cases e : j = 0 <;> simp [Addr.add, e]
          have h5 := HS.out.1.at_ j (by rw [hM]; exact hj)
          rw [hM, List.getD_eq_getElem?_getD, List.getElem?_eq_getElem hj] at h5
          rw [h4]
          exact h5)
        rw [List.length_map, ← HN.out] at h
        exact h
      obtain ⟨T2, hT2⟩ : ∃ T2, T2 = tx (l.map flatB) := ⟨_, rfl⟩
      rw [← hT2] at hcv2 HCL
      clear hT2 hM
      go_wp2_with (first | (go_at_call 56; fail))
      go_at_call 56
      refine (HCL.out _).mono ?_
      rintro e w3 ⟨rfl, hb3⟩
      have hB := HS.out.2
      rw [HQ.out] at hB
      have HB3 := Lib.hid (hB.trans (below_le hb3 hB.size))
      clear hb3 hB hcv2
      go_wp2
      go_ret
      exact ⟨rfl, HB3.out⟩
set_option maxHeartbeats 1000000 in
theorem rmay (l : Bs) (hl : l.length ≤ 900000) (w : World) : Calls Tryz.prog 20 #[.string (tx l)] w fun e w' => e = .returned (.bool (mayS l)) ∧ Below w.heap.size w w' := by
  have HF := Lib.hid (rflat l hl)
  have HC := Lib.hid (rcut l hl)
  unfold CutEnd at HC
  have HV := Lib.hid (show mayS l = (decide (l ≠ []) && decide (flatS l = l) && decide ((cutS l).length ≤ 4096)) from rfl)
  obtain ⟨V, hV⟩ : ∃ V, V = mayS l := ⟨_, rfl⟩
  rw [← hV] at HV ⊢
  clear hV
  by_cases h0 : l = []
  · subst h0
    have HR : Hid (V = false) := Lib.hid (by rw [HV.out]; rfl)
    have e0 : tx [] = ⟨#[]⟩ := rfl
    rw [e0]
    clear HV HF HC
    go_enter Tryz.func20, Tryz.ntmps20
    go_wp2
    go_ret
    exact ⟨ret_bool HR.out.symm, Below.refl _ _⟩
  · have h1 : (tx l).toList.isEmpty = false := by rw [ByteArray.toList_eq]; simpa [tx] using h0
    have h2 : ¬ (tx l).toList = [] := fun q => by rw [q] at h1; cases h1
    by_cases hf : flatS l = l
    · rw [hf] at HF
      have HR : Hid (V = decide ((cutS l).length ≤ 4096)) := Lib.hid (by rw [HV.out, decide_eq_true h0, decide_eq_true hf]; rfl)
      obtain ⟨T, hT⟩ : ∃ T, T = tx l := ⟨_, rfl⟩
      rw [← hT] at HF HC h1 h2 ⊢
      clear hT HV
      go_enter Tryz.func20, Tryz.ntmps20
      go_wp2_with (first | (go_at_call 38; fail))
      go_at_call 38
      refine (HF.out _).mono ?_
      rintro e w1 ⟨rfl, hb1⟩
      have HB1 := Lib.hid hb1
      clear hb1
      go_wp2_with (first | (go_at_call 39; fail))
      go_at_call 39
      refine (HC.out _).mono ?_
      rintro e w2 ⟨v, rfl, hv, hb2⟩
      obtain ⟨x, c, rfl⟩ := ownsRow_is hv
      have HB2 := Lib.hid (HB1.out.trans (below_le hb2 HB1.out.size))
      clear hb2 hv
      go_wp2
      go_ret
      exact ⟨by rw [HR.out]; simp; omega, HB2.out⟩
    · have hne : ¬ tx (flatS l) = tx l := fun q => hf (tx_inj q)
      have HR : Hid (V = false) := Lib.hid (by rw [HV.out, decide_eq_false hf]; simp)
      have hbq : ((tx (flatS l)).toList == (tx l).toList) = false := by rw [beq_bytes, decide_eq_false hne]
      obtain ⟨T, hT⟩ : ∃ T, T = tx l := ⟨_, rfl⟩
      obtain ⟨T2, hT2⟩ : ∃ T, T = tx (flatS l) := ⟨_, rfl⟩
      rw [← hT] at HF HC h1 h2 hne hbq ⊢
      rw [← hT2] at HF hne hbq
      clear hT hT2 HV HC
      go_enter Tryz.func20, Tryz.ntmps20
      go_wp2_with (first | (go_at_call 38; fail))
      go_at_call 38
      refine (HF.out _).mono ?_
      rintro e w1 ⟨rfl, hb1⟩
      have HB1 := Lib.hid hb1
      clear hb1
      go_wp2
      go_ret
      exact ⟨ret_bool HR.out.symm, HB1.out⟩
/-- The place of a line among others. -/
def placeS (L : List Bs) (s : Bs) : Option Nat := (List.range L.length).find? (fun j => decide (L.getD j [] = s))
theorem placeS_some {L : List Bs} {s : Bs} {i : Nat} (hi : i < L.length) (h : L.getD i [] = s) (hn : ∀ j, j < i → ¬ L.getD j [] = s) : placeS L s = some i := by
  unfold placeS
  rw [List.find?_range_eq_some]
  exact ⟨by simpa using h, by simpa using hi, fun j hj => by have := hn j hj; simp at this ⊢; exact this⟩
theorem placeS_none {L : List Bs} {s : Bs} (hn : ∀ j, j < L.length → ¬ L.getD j [] = s) : placeS L s = none := by
  unfold placeS
  rw [List.find?_range_eq_none]
  intro j hj
  have := hn j hj
  simp at this ⊢
  exact this
def placeI (L : List Bs) (s : Bs) : Int := match placeS L s with | some i => (i : Int) | none => -1
set_option maxHeartbeats 1000000 in
theorem rplace (x : Option Addr) (c : Nat) (L : List Bs) (s : Bs) (hL : L.length ≤ 1000000) (w : World) (h : SeesL w x c L) : Calls Tryz.prog 21 #[.slice x L.length c, .string (tx s)] w fun e w' => e = .returned (.int .i64 (placeI L s)) ∧ w = w' := by
  have HS := Lib.hid h
  obtain ⟨n, hn⟩ : ∃ n, n = L.length := ⟨_, rfl⟩
  have HN := Lib.hid hn
  rw [← hn] at hL ⊢
  obtain ⟨T, hT⟩ : ∃ T, T = tx s := ⟨_, rfl⟩
  have HT := Lib.hid hT
  rw [← hT]
  clear h hn hT
  go_enter Tryz.func21, Tryz.ntmps21
  go_wp2
  go_loopw [5] (fun v wr => ∃ j : Nat, v = .int .i64 (j : Int) ∧ j ≤ n ∧ Hid (∀ q, q < j → ¬ L.getD q [] = s) ∧ w = wr) (fun v _ => n - (intOf v).toNat)
  case atStart => exact ⟨0, rfl, Nat.zero_le _, Lib.hid (fun q hq => by omega), rfl⟩
  case round =>
    obtain ⟨j, rfl, hj, HQ, rfl⟩ := hrel
    have i1 : (0 : Int) ≤ (j : Int) := by omega
    by_cases hlt : j < n
    · have i2 : (j : Int) < (n : Int) := by omega
      obtain ⟨g, rfl, hg, hget⟩ := HS.out.2.2 (by have := HN.out; omega)
      have ce := hget j (by have := HN.out; omega)
      obtain ⟨X, hX⟩ : ∃ X, X = tx (L.getD j []) := ⟨_, rfl⟩
      rw [← hX] at ce
      by_cases he : L.getD j [] = s
      · have hq : (X.toList == T.toList) = true := by rw [beq_bytes, hX, HT.out, he]; simp
        have HP := Lib.hid (placeS_some (by have := HN.out; omega) he HQ.out)
        clear hX hget
        go_wp2
        go_ret
        exact ⟨by unfold placeI; rw [HP.out]; rfl, rfl⟩
      · have hq : (X.toList == T.toList) = false := by rw [beq_bytes, hX, HT.out, decide_eq_false (fun e => he (tx_inj e))]
        have HE := Lib.hid he
        clear hX hget he
        go_wp2
        go_roundw
        case rel => exact ⟨j + 1, by go_num, by omega, Lib.hid (fun q q1 => by
          by_cases e : q = j
          · rw [e]; exact HE.out
          · exact HQ.out q (by omega)), by trivial⟩
        case measure => simp [intOf]; omega
    · have i2 : ¬ (j : Int) < (n : Int) := by omega
      have HP := Lib.hid (placeS_none (L := L) (s := s) (fun q hq => HQ.out q (by have := HN.out; omega)))
      go_wp2
      go_ret
      exact ⟨by unfold placeI; rw [HP.out]; rfl, rfl⟩
end Go.Proofs.YtbaljpamhmbcjaaGreat
