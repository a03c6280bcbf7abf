/- Walk: the reference's lines. -/
import Derived.Test.YtbaljpamhmbcjaaGreatL4
namespace Go.Proofs.YtbaljpamhmbcjaaGreat
open Go.RowKit Go.Shelf Go.Lib
/-- What the loop keeps. -/
structure LnI (w : World) (s : Bs) (k f : Nat) (v : Value) (W : World) : Prop where
  fr : f + (splitL (s.take k)).2.length = k
  row : W.ownsRow w.heap.size 9 1 v (splitL (s.take k)).1.length (strs (splitL (s.take k)).1)
  bel : Below w.heap.size w W
theorem LnI.rest {w : World} {s : Bs} {k f : Nat} {v : Value} {W : World} (h : LnI w s k f v W) (hk : k ≤ s.length) : (tx s).extract f k = tx (splitL (s.take k)).2 := by
  have h1 := (splitL_len (s.take k)).2.2.1
  have h2 := h.fr
  have h3 : (s.take k).length = k := by simp; omega
  rw [h3, show k - (splitL (s.take k)).2.length = f by omega] at h1
  rw [tx_extract, ← h1, List.drop_take]
theorem take_snoc {s : Bs} {k : Nat} (hk : k < s.length) : s.take (k + 1) = s.take k ++ [s.getD k 0] := by
  rw [List.take_succ_eq_append_getElem hk, List.getD_eq_getElem?_getD, List.getElem?_eq_getElem hk]
  rfl
theorem LnI.same {w : World} {s : Bs} {k f : Nat} {v : Value} {W : World} (h : LnI w s k f v W) (hk : k < s.length) (hc : s.getD k 0 ≠ 10) : LnI w s (k + 1) f v W := by
  have h1 := splitL_snoc (s.take k) (s.getD k 0)
  rw [if_neg hc, ← take_snoc hk] at h1
  refine ⟨by rw [h1]; have := h.fr; simp; omega, ?_, h.bel⟩
  rw [h1]
  exact h.row
theorem LnI.more {w : World} {s : Bs} {k f : Nat} {v v' : Value} {W W' : World} (h : LnI w s k f v W) (hk : k < s.length) (hc : s.getD k 0 = 10) {X : ByteArray} (hX : X = tx (splitL (s.take k)).2)
    (ho : W'.ownsRow w.heap.size 9 1 v' ((splitL (s.take k)).1.length + 1) (strs (splitL (s.take k)).1 ++ [.string X])) (hg : (W.alloc (.cells #[.string X] 9)).grownBy W' v.ownBlock) : LnI w s (k + 1) (k + 1) v' W' := by
  have h1 := splitL_snoc (s.take k) (s.getD k 0)
  rw [if_pos hc, ← take_snoc hk] at h1
  refine ⟨by rw [h1]; simp, ?_, ?_⟩
  · rw [h1, strs_app, show strs [(splitL (s.take k)).2] = [.string X] by rw [hX]; rfl, List.length_append]
    exact ho
  · exact (h.bel.alloc h.bel.size _).grown hg (by have := h.bel.size; simp; omega) (fun j hj => (h.row.lt j hj).1)
theorem tx_at (s : Bs) (k : Nat) (h : k < (tx s).size) : (tx s)[k]'h = s.getD k 0 := by
  have hk : k < s.length := by rw [tx_size] at h; exact h
  rw [List.getD_eq_getElem?_getD, List.getElem?_eq_getElem hk]
  show (tx s).data[k]'_ = _
  simp [tx]
set_option maxRecDepth 100000 in
set_option maxHeartbeats 4000000 in
theorem rlines (s : Bs) (hs : s.length ≤ 800000) (w : World) : Calls Tryz.prog 19 #[.string (tx s)] w fun e w' => ∃ v, e = .returned (.tuple #[v, .bool (decide ((splitL s).2 = []))]) ∧ w'.ownsRow w.heap.size 9 1 v (splitL s).1.length (strs (splitL s).1) ∧ Below w.heap.size w w' := by
  obtain ⟨i0, hi, hz0, hz1, hz2⟩ := info_parts9
  have HI9 := Lib.hid (And.intro hi (And.intro hz0 (And.intro hz1 hz2)))
  clear hi hz0 hz1 hz2
  have HAT := Lib.hid (tx_at s)
  obtain ⟨S, hS⟩ : ∃ S, S = tx s := ⟨_, rfl⟩
  have hsz : S.size = s.length := by rw [hS, tx_size]
  have HSS := Lib.hid hS
  rw [← hS] at HAT
  obtain ⟨n, hn⟩ : ∃ n, n = S.size := ⟨_, rfl⟩
  have HN : Hid (n = s.length) := Lib.hid (by omega)
  have hnb : n ≤ 800000 := by omega
  rw [← hS]
  have hns : S.size = n := hn.symm
  clear hS hsz hs hn
  go_enter Tryz.func19, Tryz.ntmps19
  go_wp2
  go_loopw [4, 5, 6] (fun v f i wr => ∃ k q : Nat, f = .int .i64 (q : Int) ∧ i = .int .i64 (k : Int) ∧ k ≤ n ∧ q ≤ k ∧ Hid (LnI w s k q v wr)) (fun _ _ i _ => n - (intOf i).toNat)
  case atStart => exact ⟨0, 0, rfl, rfl, Nat.zero_le _, Nat.le_refl _, Lib.hid ⟨rfl, World.ownsRow_nil _ _ _ _, Below.refl _ _⟩⟩
  case round =>
    obtain ⟨k, q, rfl, rfl, hk, hqk, HR⟩ := hrel
    obtain ⟨xx, cc, hv⟩ := ownsRow_is HR.out.row
    subst hv
    by_cases hlt : k < n
    · have i1 : (0 : Int) ≤ (k : Int) := by omega
      have i2 : (k : Int) < (n : Int) := by omega
      have i3 : k < S.size := by omega
      obtain ⟨c, hc⟩ : ∃ c, c = s.getD k 0 := ⟨_, rfl⟩
      have hat : S[k]'i3 = c := by rw [hc]; exact HAT.out k i3
      have HC := Lib.hid hc
      have HKS : Hid (k < s.length) := Lib.hid (by rw [← HN.out]; exact hlt)
      have HDL : Hid ((splitL (s.take k)).1.length ≤ 800000) := Lib.hid (by have h9 := (splitL_len (s.take k)).2.1; rw [List.length_take] at h9; omega)
      by_cases h10 : c = 10
      · have b1 : ((c.toNat : Int) == 10) = true := by rw [h10]; rfl
        have hex := HR.out.rest (by have := HKS.out; omega)
        rw [← HSS.out] at hex
        obtain ⟨X, hX⟩ : ∃ X, X = tx (splitL (s.take k)).2 := ⟨_, rfl⟩
        rw [← hX] at hex
        have HX := Lib.hid hX
        have HMO := Lib.hid (fun (v' : Value) (W' : World) h1 h2 => HR.out.more (v' := v') (W' := W') HKS.out (by rw [← HC.out]; exact h10) HX.out h1 h2)
        have HROW := Lib.hid HR.out.row
        have hdl := HDL.out
        have hbs := HR.out.bel.size
        generalize (splitL (s.take k)).1.length = N at HMO HROW hdl ⊢
        generalize strs (splitL (s.take k)).1 = LL at HMO HROW
        clear h10 hc hX
        have j1 : (0 : Int) ≤ (q : Int) := by omega
        have j2 : (q : Int) ≤ (k : Int) := by omega
        go_wp2_with (at_builtin; go_loud (refine wpList_append_own _ rfl _ _ 22 rfl w.heap.size 9 i0 (.string ⟨#[]⟩) 1 16 Tryz.underlying22 HI9.out.1 HI9.out.2.1 HI9.out.2.2.1 HI9.out.2.2.2 rfl (by decide) _ _ _ rfl (HROW.out.alloc _) ⟨wr.heap.size, 0, none⟩ 1 1 [.string X] rfl rfl (cell_one_new _ _ _) (by simp [Value.oneCell']) (by unfold maxLen; omega) (by omega) (by simp; omega) ?_))
        intro v1 w4 hown1 hgrow1 _
        have HA := Lib.hid (HMO.out _ _ hown1 hgrow1)
        clear hown1 hgrow1
        go_wp2
        go_roundw
        case rel => exact ⟨k + 1, k + 1, by go_num, by go_num, by omega, by omega, HA⟩
        case measure => simp [intOf]; omega
      · have b1 : ((c.toNat : Int) == 10) = false := by
          rw [beq_eq_false_iff_ne]
          intro q
          exact h10 (UInt8.toNat_inj.1 (show c.toNat = 10 by omega))
        have HA := Lib.hid (HR.out.same HKS.out (by rw [← HC.out]; exact h10))
        clear hc h10
        go_wp2
        go_roundw
        case rel => exact ⟨k + 1, q, rfl, by go_num, by omega, by omega, HA⟩
        case measure => simp [intOf]; omega
    · obtain rfl : k = n := by omega
      have i1 : ¬ (k : Int) < (k : Int) := by omega
      have htk : s.take k = s := List.take_of_length_le (by rw [← HN.out]; exact Nat.le_refl _)
      obtain ⟨h1, h2, h3⟩ := HR.out
      rw [htk] at h1 h2
      have hb : ((q : Int) == (k : Int)) = decide ((splitL s).2 = []) := by
        rw [Bool.eq_iff_iff, beq_iff_eq, decide_eq_true_eq, ← List.length_eq_zero_iff]
        omega
      have HF := Lib.hid (And.intro h2 h3)
      rw [htk]
      clear h1 h2 h3 htk HR HAT
      obtain ⟨Bq, hBq⟩ : ∃ Bq, Bq = decide ((splitL s).2 = []) := ⟨_, rfl⟩
      rw [← hBq] at hb
      have HBQ := Lib.hid hBq
      clear hBq
      go_wp2
      go_ret2
      exact ⟨_, by rw [← HBQ.out]; rfl, HF.out.1, HF.out.2⟩
end Go.Proofs.YtbaljpamhmbcjaaGreat
