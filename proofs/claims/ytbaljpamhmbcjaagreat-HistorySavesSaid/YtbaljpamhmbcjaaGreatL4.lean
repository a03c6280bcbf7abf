/- Walk: Load, whole. -/
import Derived.Test.YtbaljpamhmbcjaaGreatL3
namespace Go.Proofs.YtbaljpamhmbcjaaGreat
open Go.RowKit Go.Shelf Go.Lib
theorem wLoad_tail (m : Int) (hm1 : 1 ≤ m) (hm2 : m ≤ 256) (s : Bs) (hs : s.length ≤ 800000) (htl : (splitL s).2 ≠ []) (w : World) : Calls Tryz.prog 4 #[.int .i64 m, .string (tx s)] w (LoadEnd m s w) := by
  have HNEW := Lib.hid (wnewH m hm1 hm2 w)
  have h0 : s ≠ [] := fun q => by subst q; exact htl rfl
  have HSF := Lib.hid (wsuf s hs h0)
  rw [decide_eq_false htl] at HSF
  obtain ⟨h1, h2⟩ := tx_empty h0
  have HE := Lib.hid (loadE_tail hm1 hm2 htl)
  obtain ⟨S, hS⟩ : ∃ S, S = tx s := ⟨_, rfl⟩
  rw [← hS] at HSF h1 h2 ⊢
  clear hS htl h0 hs hm1 hm2
  go_enter Tryz.func4, Tryz.ntmps4
  go_wp2_with (first | (go_at_call 11; (with_reducible refine HNEW.out.mono ?_); rintro e w' ⟨rfl, rfl⟩) | (go_at_call 12; (with_reducible refine (HSF.out _).mono ?_); rintro e w' ⟨rfl, rfl⟩))
  go_ret2
  exact LoadEnd.bad HE.out (by decide) ((Below.refl _ _).alloc (Nat.le_refl _) _)
set_option maxRecDepth 100000 in
set_option maxHeartbeats 4000000 in
theorem wLoad_ok (m : Int) (hm1 : 1 ≤ m) (hm2 : m ≤ 256) (s : Bs) (hs : s.length ≤ 800000) (hn : (splitL s).1.length ≤ 1000) (htl : (splitL s).2 = []) (w : World) (hM : MaxLn w) : Calls Tryz.prog 4 #[.int .i64 m, .string (tx s)] w (LoadEnd m s w) := by
  obtain ⟨i0, hi, hz0, hz1, hz2⟩ := info_parts9
  have HI9 := Lib.hid (And.intro hi (And.intro hz0 (And.intro hz1 hz2)))
  clear hi hz0 hz1 hz2
  have HNEW := Lib.hid (wnewH m hm1 hm2 w)
  have HM := Lib.hid (And.intro hM hM.lt)
  have HMM := Lib.hid (And.intro hm1 hm2)
  have HSN := Lib.hid (And.intro hs hn)
  have HTL := Lib.hid htl
  obtain ⟨w1, hw1⟩ : ∃ w1, w1 = w.alloc (.cells #[.int .i64 m, .slice none 0 0, .bool false, .string ⟨#[]⟩, .string ⟨#[]⟩, .int .i64 0] 45) := ⟨_, rfl⟩
  have HL0 : Hid (Ld1 w m s s [] none 0 w1) := Lib.hid ⟨by rw [hw1]; exact ldI_new w m, by simp, by simp, Nat.le_refl _⟩
  rw [← hw1] at HNEW
  clear hw1 hM hs hn hm1 hm2
  obtain ⟨S, hS⟩ : ∃ S, S = tx s := ⟨_, rfl⟩
  have HSS := Lib.hid hS
  have hfront : S = ⟨#[]⟩ ∨ (S.toList.isEmpty = false ∧ ¬ S.toList = [] ∧ Hid (∀ W, Calls Tryz.prog 12 #[.string S, .string ⟨#[10]⟩] W fun e w' => e = .returned (.bool true) ∧ W = w')) := by
    by_cases h0 : s = []
    · left; subst h0; exact hS
    · right
      have h1 := wsuf s HSN.out.1 h0
      rw [decide_eq_true htl] at h1
      rw [hS]; exact ⟨(tx_empty h0).1, (tx_empty h0).2, Lib.hid h1⟩
  rw [← hS]
  clear htl hS
  rcases hfront with rfl | ⟨h1, h2, HSF⟩
  all_goals go_enter Tryz.func4, Tryz.ntmps4
  all_goals go_wp2_with (first | (go_at_call 11; (with_reducible refine HNEW.out.mono ?_); rintro e w' ⟨rfl, rfl⟩) | (go_at_call 12; (with_reducible refine (HSF.out _).mono ?_); rintro e w' ⟨rfl, rfl⟩))
  all_goals (try clear h1 h2 HSF)
  all_goals
    go_loopw [1] (fun v wr => ∃ (R : Bs) (D : List Bs) (x : Option Addr) (c : Nat), v = .string (tx R) ∧ Hid (Ld1 w m s R D x c wr)) (fun v _ => strLen v)
    case atStart => exact ⟨s, [], none, 0, by rw [HSS.out], HL0⟩
    case round =>
      clear HL0 HNEW
      obtain ⟨R, D, x, c, rfl, HR⟩ := hrel
      by_cases hR : R = []
      · subst hR
        have e0 : tx [] = ⟨#[]⟩ := rfl
        rw [e0]
        have hD : (splitL s).1 = D := by have := HR.out.2.1; rw [this]; simp [splitL]
        have HE := Lib.hid (loadE_rest HMM.out.1 HMM.out.2 HTL.out (by rw [hD]; exact HR.out.2.2.1))
        rw [hD] at HE
        have HDN : Hid (D.length ≤ 1000) := Lib.hid (by have := HSN.out.2; rw [hD] at this; exact this)
        have HDD := Lib.hid hD
        have HADJ := Lib.hid (adj_nodup D)
        obtain ⟨-, c1, -, -, -, -, -⟩ := HR.out.1.his.cells
        have HCL := Lib.hid (wclone HR.out.1.his.row HDN.out)
        obtain ⟨N, hN⟩ : ∃ N, N = D.length := ⟨_, rfl⟩
        rw [← hN] at c1 HCL
        have HN := Lib.hid hN
        clear hN hD
        go_wp2_with (first | (go_at_call 15; fail))
        go_at_call 15
        refine HCL.out.mono ?_
        rintro e w2 ⟨y, cap, rfl, hr2, hb2⟩
        have HSRT : Hid (Calls Tryz.prog 16 #[.slice y N cap] w2 fun e w' => e = .returned (.tuple #[]) ∧ Below wr.heap.size w2 w' ∧ ∀ j, j < N → ∃ q, y = some ⟨q, 0, none⟩ ∧ N ≤ cap ∧ w'.cell? ⟨q, j, none⟩ = some (.string (tx ((D.mergeSort fun x y => decide (x ≤ y)).getD j [])))) := Lib.hid (by
          have := wsort (D := D) (by rw [← HN.out]; exact hr2) HDN.out hb2.size
          rw [← HN.out] at this
          exact this)
        have HB2 := Lib.hid hb2
        clear hr2 hb2 HCL c1
        go_wp2_with (first | (go_at_call 16; fail))
        go_at_call 16
        refine HSRT.out.mono ?_
        rintro e w3 ⟨rfl, hb3, hc3⟩
        have HC := Lib.hid hc3
        have H3 := Lib.hid (fun q => HR.out.1.below ((below_drewN (HB2.out.trans hb3) q)))
        have hNb : N ≤ 1000 := by rw [HN.out]; exact HDN.out
        clear hc3 hb3 HSRT HB2
        obtain ⟨T, hT⟩ : ∃ T, T = (D.mergeSort fun x y => decide (x ≤ y)) := ⟨_, rfl⟩
        rw [← hT] at HC HADJ
        clear hT
        go_wp2
        go_loopw [12] (fun v wq => ∃ j : Nat, v = .int .i64 (j : Int) ∧ 1 ≤ j ∧ j ≤ N + 1 ∧ Hid ((∃ q, wq = w3.drewN q) ∧ ∀ i, 1 ≤ i → i < j → i < N → T.getD i [] ≠ T.getD (i - 1) [])) (fun v _ => N + 1 - (intOf v).toNat)
        case atStart => exact ⟨1, rfl, Nat.le_refl _, by omega, Lib.hid ⟨⟨0, rfl⟩, fun i h1 h2 => by omega⟩⟩
        case round =>
          obtain ⟨j, rfl, hj1, hj2, HJ⟩ := hrel
          by_cases hlt : j < N
          · have i1 : (0 : Int) ≤ (j : Int) := by omega
            have i2 : (j : Int) < (N : Int) := by omega
            obtain ⟨p, hp⟩ : ∃ p : Nat, (j : Int) - 1 = (p : Int) := ⟨j - 1, by omega⟩
            have hp' : p = j - 1 := by omega
            have i3 : (0 : Int) ≤ (p : Int) := by omega
            have i4 : (p : Int) < (N : Int) := by omega
            obtain ⟨g, rfl, hcap, ce'⟩ := HC.out j hlt
            obtain ⟨g2, hg2, _, ce2'⟩ := HC.out p (by omega)
            cases hg2
            have ce : wr.cell? ⟨g, j, none⟩ = some (.string (tx (T.getD j []))) := by
              obtain ⟨q, rfl⟩ := HJ.out.1
              simpa [go_sem] using ce'
            have ce2 : wr.cell? ⟨g, p, none⟩ = some (.string (tx (T.getD p []))) := by
              obtain ⟨q, rfl⟩ := HJ.out.1
              simpa [go_sem] using ce2'
            have HP := Lib.hid hp'
            obtain ⟨A, hA⟩ : ∃ A, A = T.getD j [] := ⟨_, rfl⟩
            obtain ⟨B, hB⟩ : ∃ B, B = T.getD p [] := ⟨_, rfl⟩
            rw [← hA] at ce
            rw [← hB] at ce2
            have HAB := Lib.hid (And.intro hA hB)
            clear ce' ce2' hp' hA hB
            by_cases hab : A = B
            · have HE1 : Hid (loadE m s = 1) := Lib.hid (by
                rw [HE.out, if_pos (fun q => ?_)]
                have := HADJ.out.2 q j hj1 (by rw [← HN.out]; exact hlt)
                rw [← HP.out, ← HAB.out.1, ← HAB.out.2] at this
                exact this hab)
              have hq : ((tx A).toList == (tx B).toList) = true := by rw [beq_bytes, hab]; simp
              obtain ⟨TA, hTA⟩ : ∃ TA, TA = tx A := ⟨_, rfl⟩
              obtain ⟨TB, hTB⟩ : ∃ TA, TA = tx B := ⟨_, rfl⟩
              rw [← hTA] at ce hq
              rw [← hTB] at ce2 hq
              clear hTA hTB hab
              go_wp2
              go_quiet (fail)
              go_wp2
              go_ret2
              obtain ⟨q, rfl⟩ := HJ.out.1
              exact LoadEnd.bad HE1.out (by decide) (below_drewN (H3.out q).bel _)
            · have HNE := Lib.hid hab
              have hq : ((tx A).toList == (tx B).toList) = false := by rw [beq_bytes, decide_eq_false (fun e => hab (tx_inj e))]
              obtain ⟨TA, hTA⟩ : ∃ TA, TA = tx A := ⟨_, rfl⟩
              obtain ⟨TB, hTB⟩ : ∃ TA, TA = tx B := ⟨_, rfl⟩
              rw [← hTA] at ce hq
              rw [← hTB] at ce2 hq
              clear hTA hTB hab
              go_wp2
              go_quiet (fail)
              go_wp2
              go_roundw
              case rel =>
                obtain ⟨q, rfl⟩ := HJ.out.1
                refine ⟨j + 1, by go_num, by omega, by omega, Lib.hid ⟨⟨q + nq, World.drewN_drewN _ _ _⟩, fun i h1 h2 h3 => ?_⟩⟩
                by_cases hij : i < j
                · exact HJ.out.2 i h1 hij h3
                · obtain rfl : i = j := by omega
                  rw [← HP.out, ← HAB.out.1, ← HAB.out.2]
                  exact HNE.out
              case measure => simp [intOf]; omega
          · have i2 : ¬ (j : Int) < (N : Int) := by omega
            have hnd : D.Nodup := HADJ.out.1 (fun i h1 h2 => HJ.out.2 i h1 (by rw [← HN.out] at h2; omega) (by rw [← HN.out] at h2; exact h2))
            rw [if_neg (not_not_intro hnd), ← HN.out] at HE
            have HHS : Hid (LdI w wr m D x c) := Lib.hid (by obtain ⟨q, rfl⟩ := HJ.out.1; exact H3.out q)
            obtain ⟨-, c1, -, -, -, -, -⟩ := HHS.out.his.cells
            rw [← HN.out] at c1
            have HREV : Hid (Calls Tryz.prog 17 #[.slice x N c] wr fun e w' => e = .returned (.tuple #[]) ∧ LdI w w' m D.reverse x c) := Lib.hid (by rw [HN.out]; exact wrev HHS.out HDN.out)
            clear hnd HJ HADJ HC H3
            by_cases hmn : m < (N : Int)
            · rw [if_pos hmn] at HE
              go_wp2
              go_ret2
              exact LoadEnd.bad HE.out (by decide) HHS.out.bel
            · rw [if_neg hmn] at HE
              go_wp2_with (first | (go_at_call 17; fail))
              go_at_call 17
              refine HREV.out.mono ?_
              rintro e w4 ⟨rfl, h4⟩
              have H4 := Lib.hid h4
              clear h4 c1
              go_wp2
              go_ret2
              exact ⟨H4.out.bel, .inr ⟨HE.out, x, c, rfl, by rw [HDD.out]; exact H4.out.his⟩⟩
      · obtain ⟨t1, t2⟩ := tx_empty hR
        have hnl : ∃ l r, R = l ++ 10 :: r ∧ (∀ c ∈ l, c ≠ 10) ∧ Lib.cut R [10] = (l, r, true) := by
          refine cut_nl R ?_
          have h1 := lines_splitL R
          have h2 : (splitL R).2 = [] := by have := HTL.out; rw [HR.out.2.1] at this; exact this
          rw [h2, List.append_nil] at h1
          cases h3 : (splitL R).1 with
          | nil => rw [h3] at h1; exact absurd h1.symm hR
          | cons a b => rw [h3, List.flatMap_cons] at h1; rw [← h1]; simp
        obtain ⟨l, r, hlr, hl10, hcut⟩ := hnl
        have HSP : Hid (splitL R = (l :: (splitL r).1, (splitL r).2)) := Lib.hid (by rw [hlr]; exact splitL_cons l r hl10)
        have HLN : Hid (R.length = l.length + r.length + 1) := Lib.hid (by rw [hlr]; simp; omega)
        have HCUT := Lib.hid (wcutnl R l r (by have := HSN.out.1; have := HR.out.2.2.2; omega) hcut)
        have HMAY := Lib.hid (wmay l (by have := HSN.out.1; have := HR.out.2.2.2; have := HLN.out; omega))
        have HDL : Hid (D.length + 1 ≤ 1000) := Lib.hid (by have := HR.out.len; rw [HSP.out] at this; simp at this; have := HSN.out.2; omega)
        obtain ⟨T, hT⟩ : ∃ T, T = tx R := ⟨_, rfl⟩
        have HTS : Hid (strLen (.string (tx R)) = R.length) := Lib.hid (tx_size R)
        rw [← hT] at HCUT t1 t2 HTS ⊢
        clear hcut hlr hl10 hR hT
        obtain ⟨X, hX⟩ : ∃ X, X = tx l := ⟨_, rfl⟩
        have HX := Lib.hid hX
        rw [← hX] at HCUT HMAY
        clear hX
        go_wp2_with (first | (go_at_call 13; fail))
        go_at_call 13
        refine (HCUT.out _ (HM.out.1.kept HM.out.2 HR.out.1.bel)).mono ?_
        rintro e w2 ⟨rfl, hb2⟩
        have H2 := Lib.hid (And.intro (HR.out.1.below hb2) (And.intro HR.out.2 trivial))
        clear hb2
        cases hv : mayS l with
        | false =>
          rw [hv] at HMAY
          have HE : Hid (loadE m s = 7) := Lib.hid (loadE_may HMM.out.1 HMM.out.2 (l := l) (by rw [HR.out.2.1, HSP.out]; simp) hv)
          go_wp2_with (first | (go_at_call 14; fail))
          go_at_call 14
          refine (HMAY.out _).mono ?_
          rintro e w3 ⟨rfl, hb3⟩
          have HB3 := Lib.hid (H2.out.1.bel.trans (below_le hb3 H2.out.1.bel.size))
          clear hb3
          go_wp2
          go_ret2
          exact LoadEnd.bad HE.out (by decide) HB3.out
        | true =>
          rw [hv] at HMAY
          have HV := Lib.hid hv
          clear hv
          go_wp2_with (first | (go_at_call 14; fail))
          go_at_call 14
          refine (HMAY.out _).mono ?_
          rintro e w3 ⟨rfl, hb3⟩
          have H3 := Lib.hid (H2.out.1.below hb3)
          clear hb3 H2
          obtain ⟨-, c1, -, -, -, -, -⟩ := H3.out.his.cells
          have hlen := HDL.out
          have hlt := H3.out.lt
          obtain ⟨N, hN⟩ : ∃ N, N = D.length := ⟨_, rfl⟩
          have HROW := Lib.hid H3.out.row
          rw [← hN] at hlen c1 HROW
          have HN := Lib.hid hN
          clear hN
          go_wp2_with (at_builtin; go_loud (refine wpList_append_own _ rfl _ _ 22 rfl (w.heap.size + 1) 9 i0 (.string ⟨#[]⟩) 1 16 Tryz.underlying22 HI9.out.1 HI9.out.2.1 HI9.out.2.2.1 HI9.out.2.2.2 rfl (by decide) _ _ _ rfl (HROW.out.alloc _) ⟨w3.heap.size, 0, none⟩ 1 1 [.string X] rfl rfl (cell_one_new _ _ _) (by simp [Value.oneCell']) (by unfold maxLen; omega) (by omega) (by simp; omega) ?_))
          intro v1 w4 hown1 hgrow1 _
          obtain ⟨x', c', rfl⟩ := ownsRow_is hown1
          have HA := Lib.hid (LdI.app (l := l) H3.out HX.out (by rw [← HN.out]; exact hown1) (by rw [← HN.out]; exact hgrow1))
          clear hown1 hgrow1 c1
          obtain ⟨c1, f1, hn'⟩ := HA.out
          rw [← HN.out] at c1 hn'
          have HNX := Lib.hid hn'
          clear hn' HA
          go_wp2
          go_roundw
          case rel => exact ⟨r, D ++ [l], x', c', rfl, Lib.hid ⟨HNX.out, by rw [HR.out.2.1, HSP.out]; simp, fun y hy => by
            rcases List.mem_append.1 hy with h | h
            · exact HR.out.2.2.1 y h
            · rw [List.mem_singleton.1 h]; exact HV.out, by have := HLN.out; have := HR.out.2.2.2; omega⟩⟩
          case measure => rw [HTS.out, HLN.out]; show (tx r).size < _; rw [tx_size]; omega
end Go.Proofs.YtbaljpamhmbcjaaGreat
