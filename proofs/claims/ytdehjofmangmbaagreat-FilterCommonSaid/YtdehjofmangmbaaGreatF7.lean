/- Walks: the reference's Words. -/
import Derived.Test.YtdehjofmangmbaaGreatF6
namespace Go.Proofs.YtdehjofmangmbaaGreat
open Go.RowKit Go.Shelf
theorem wd_blank {cs : List Bs} {i : Nat} (hi : i < cs.length) (h : isBl (cs.getD i []) = true) : wdF (cs.take (i + 1)) = ((wdF (cs.take i)).1, false) := by
  rw [take_snocB cs i hi, wdF_snoc]
  unfold wdR
  rw [if_pos h]
theorem wd_run {cs : List Bs} {i : Nat} (h0 : (wdF (cs.take i)).2 = false) : ∀ m, i + m < cs.length → (∀ q, i ≤ q → q < i + m + 1 → isBl (cs.getD q []) = false) → wdF (cs.take (i + m + 1)) = ((wdF (cs.take i)).1 ++ [(cs.drop i).take (m + 1)], true)
  | 0, hm, hq => by
    rw [take_snocB cs (i + 0) hm, wdF_snoc]
    unfold wdR
    rw [Nat.add_zero, if_neg (by rw [hq i (Nat.le_refl _) (by omega)]; simp)]
    rw [h0]
    simp only [Bool.false_eq_true, if_false]
    rw [List.drop_eq_getElem_cons (by omega), List.getD_eq_getElem?_getD, List.getElem?_eq_getElem (by omega)]
    rfl
  | m + 1, hm, hq => by
    have ih := wd_run h0 m (by omega) (fun q h1 h2 => hq q h1 (by omega))
    rw [show i + (m + 1) + 1 = (i + m + 1) + 1 by omega, take_snocB cs (i + m + 1) (by omega), wdF_snoc, ih]
    unfold wdR
    rw [if_neg (by rw [hq (i + m + 1) (by omega) (by omega)]; simp)]
    simp only [if_true]
    have h1 : (cs.drop i).take (m + 1 + 1) = (cs.drop i).take (m + 1) ++ [cs.getD (i + m + 1) []] := by
      rw [take_snocB (cs.drop i) (m + 1) (by rw [List.length_drop]; omega)]
      simp only [List.getD_eq_getElem?_getD, List.getElem?_drop]
      rw [show i + (m + 1) = i + m + 1 by omega]
    rw [h1]
    simp [List.getD_eq_getElem?_getD]
theorem TxV.sub {W : World} {g c : Nat} {L : List Bs} (hg : g < W.heap.size) (hget : ∀ i, i < L.length → W.cell? ⟨g, i, none⟩ = some (.string (tx (L.getD i [])))) {i k : Nat} (hk : k ≤ L.length) (hc : L.length ≤ c) (hL : L.length ≤ 1000000) : TxV W (.slice (some ⟨g, i, none⟩) (k - i) (c - i)) ((L.drop i).take (k - i)) := by
  have hl : ((L.drop i).take (k - i)).length = k - i := by rw [List.length_take, List.length_drop]; omega
  refine ⟨by rw [hl]; omega, .inr ⟨g, i, c - i, by rw [hl], by rw [hl]; omega, hg, fun j hj => ?_⟩⟩
  rw [hl] at hj
  rw [hget (i + j) (by omega)]
  congr 3
  rw [List.getD_eq_getElem?_getD, List.getD_eq_getElem?_getD, List.getElem?_take_of_lt hj, List.getElem?_drop]
set_option maxRecDepth 100000 in
set_option maxHeartbeats 8000000 in
theorem rWords (q : Bs) (hq : q.length ≤ 10000) (w : World) : Calls Tryz.prog 14 #[.string (tx q)] w (WrdEnd q w) := by
  unfold WrdEnd
  have HC := Lib.hid (fun W => rcl q hq W)
  unfold ClEnd at HC
  have HNE := Lib.hid (clS_ne q)
  have HSH := Lib.hid (clS_short q)
  have HLN := Lib.hid (clS_len q)
  have HQ := Lib.hid hq
  have HW : Hid (wds q = (wdF (clS q)).1) := Lib.hid rfl
  obtain ⟨i9, hi, hi0, hi1, hi2⟩ := info_parts9
  have HP9 := Lib.hid (And.intro hi (And.intro hi0 (And.intro hi1 hi2)))
  clear hi hi0 hi1 hi2 hq
  obtain ⟨cs, hcs⟩ : ∃ cs, cs = clS q := ⟨_, rfl⟩
  rw [← hcs] at HC HNE HLN HW HSH
  generalize tx q = T at HC ⊢
  clear hcs
  go_enter Tryz.func14, Tryz.ntmps14
  go_wp2_with (first | (go_at_call 28; fail))
  go_at_call 28
  refine (HC.out _).mono ?_
  rintro e w1 ⟨v9, rfl, hv, hb⟩
  obtain ⟨x9, c9, rfl⟩ := ownsRow_is hv
  have HR := Lib.hid (fun (W : World) (hB : Below w1.heap.size w1 W) (j : Nat) (hj : j < cs.length) => rowK_get (row_kept hv (fun k hk => hB.block k (hv.lt k hk).2)) j hj)
  obtain ⟨n, hn⟩ : ∃ n, n = cs.length := ⟨_, rfl⟩
  have HN := Lib.hid hn
  have hn9 : n ≤ 700000 := by have := HLN.out; have := HQ.out; omega
  have HBW := Lib.hid hb
  rw [← hn]
  clear hv hb hn HC
  go_wp2
  go_loopw [4, 5] (fun v i wr => ∃ j : Nat, i = .int .i64 (j : Int) ∧ j ≤ n + 1 ∧ Hid (j ≤ n → (wdF (cs.take j)).2 = false) ∧ Hid (wr.ownsRow w1.heap.size 9 1 v (wdF (cs.take j)).1.length (strs ((wdF (cs.take j)).1.map List.flatten)) ∧ Below w1.heap.size w1 wr)) (fun _ i _ => n + 1 - (intOf i).toNat)
  case atStart => exact ⟨0, rfl, Nat.zero_le _, Lib.hid (fun _ => rfl), Lib.hid ⟨World.ownsRow_nil _ _ _ _, Below.refl _ _⟩⟩
  case round =>
    obtain ⟨j, rfl, hj, HOP, HI⟩ := hrel
    have i1 : (0 : Int) ≤ (j : Int) := by omega
    obtain ⟨xv, cv, hxv⟩ := ownsRow_is HI.out.1
    subst hxv
    by_cases hlt : j < n
    · have i2 : (j : Int) < (n : Int) := by omega
      have hjl : j < cs.length := by have := HN.out; omega
      obtain ⟨g9, rfl, hg9, hgc, hget⟩ := HR.out wr HI.out.2 j hjl
      have HGET := Lib.hid hget
      have ce := hget j hjl
      have hcne : cs.getD j [] ≠ [] := HNE.out _ (by rw [List.getD_eq_getElem?_getD, List.getElem?_eq_getElem hjl]; exact List.getElem_mem hjl)
      obtain ⟨U, hU⟩ : ∃ U, U = tx (cs.getD j []) := ⟨_, rfl⟩
      rw [← hU] at ce
      obtain ⟨b, hb0, hbs, hbx2⟩ := tx_firstU hcne hU
      clear hU hget hcne
      have i0 : (0 : Int) < (U.size : Int) := by omega
      have HOP1 := Lib.hid (HOP.out (by omega))
      have HWL := Lib.hid (wdF_len (cs.take j))
      by_cases hb32 : b = 32
      · subst hb32
        have HS := Lib.hid (wd_blank hjl (show isBl (cs.getD j []) = true by unfold isBl; rw [hb0]; rfl))
        clear hb0
        go_wp2
        go_roundw
        case rel => exact ⟨j + 1, by go_num, by omega, Lib.hid (fun _ => by rw [HS.out]), Lib.hid (by rw [HS.out]; exact HI.out)⟩
        case measure => simp [intOf]; omega
      · have hbl : isBl (cs.getD j []) = false := by unfold isBl; rw [hb0]; simpa using hb32
        have HBL := Lib.hid hbl
        have HB32 : ((b.toNat : Int) == 32) = false := by
          rw [beq_eq_false_iff_ne]
          intro e
          exact hb32 (UInt8.toNat_inj.1 (by have : (32 : UInt8).toNat = 32 := rfl; omega))
        clear hb0 hbl hb32
        go_wp2
        go_loopw [6] (fun k wk => ∃ m : Nat, k = .int .i64 (m : Int) ∧ j ≤ m ∧ m ≤ n ∧ wk = wr ∧ Hid (∀ q, j ≤ q → q < m → isBl (cs.getD q []) = false)) (fun k _ => n - (intOf k).toNat)
        case atStart => exact ⟨j, rfl, Nat.le_refl _, by omega, rfl, Lib.hid (fun q h1 h2 => by omega)⟩
        case round =>
          obtain ⟨m, rfl, hjm, hm, rfl, HNB⟩ := hrel
          have hmi : (0 : Int) ≤ (m : Int) := by omega
          have hgc2 : n ≤ c9 := by have := HN.out; omega
          by_cases hm2 : m < n
          · have ce2 := HGET.out m (by have := HN.out; omega)
            have hcne2 : cs.getD m [] ≠ [] := HNE.out _ (by rw [List.getD_eq_getElem?_getD, List.getElem?_eq_getElem (by have := HN.out; omega)]; exact List.getElem_mem _)
            obtain ⟨U2, hU2⟩ : ∃ U, U = tx (cs.getD m []) := ⟨_, rfl⟩
            rw [← hU2] at ce2
            obtain ⟨b2, hb2, hbs2, hbx3⟩ := tx_firstU hcne2 hU2
            clear hU2 hcne2
            have i02 : (0 : Int) < (U2.size : Int) := by omega
            by_cases hb32 : b2 = 32
            · have hbl2 : isBl (cs.getD m []) = true := by unfold isBl; rw [hb2, hb32]; rfl
              have HBL2 := Lib.hid hbl2
              subst hb32
              clear hb2 hbl2
              have HJN : Hid (∀ W, Below w1.heap.size w1 W → Calls Tryz.prog 37 #[.slice (some ⟨g9, j, none⟩) (m - j) (c9 - j)] W fun e w' => e = .returned (.string (tx ((cs.drop j).take (m - j)).flatten)) ∧ W = w') := Lib.hid (fun W hW => rjoin _ _ (by
                have h1 := flat_short ((cs.drop j).take (m - j)) (fun c hc => HSH.out c (List.mem_of_mem_drop (List.mem_of_mem_take hc)))
                have h2 : ((cs.drop j).take (m - j)).length ≤ 700000 := by rw [List.length_take]; omega
                omega) W (by
                obtain ⟨g', e', h1, h2, h3⟩ := HR.out W hW j (by have := HN.out; omega)
                obtain rfl : g9 = g' := by simpa using e'
                exact TxV.sub h1 h3 (by have := HN.out; omega) h2 (by have := HN.out; omega)))
              have hjm2 : j < m := by
                rcases Nat.lt_or_ge j m with q | q
                · exact q
                · exfalso
                  obtain rfl : j = m := by omega
                  rw [HBL.out] at HBL2; exact absurd HBL2.out (by simp)
              have HRUN := Lib.hid (wd_run HOP1.out (m - j - 1) (by have := HN.out; omega) (fun q h1 h2 => HNB.out q h1 (by omega)))
              rw [show j + (m - j - 1) + 1 = m by omega, show m - j - 1 + 1 = m - j by omega] at HRUN
              have hmc : m ≤ c9 := by have := HN.out; omega
              obtain ⟨X, hX⟩ : ∃ X, X = tx ((cs.drop j).take (m - j)).flatten := ⟨_, rfl⟩
              have HX := Lib.hid hX
              rw [← hX] at HJN
              have hbs := HI.out.2.size
              have hwl := HWL.out.1
              have hwl2 : (wdF (cs.take j)).1.length ≤ 700000 := by rw [List.length_take] at hwl; omega
              clear hX hwl
              go_wp2_with (first | (go_at_call 37; refine (HJN.out _ HI.out.2).mono ?_; rintro e w9 ⟨rfl, rfl⟩) | (at_builtin; go_loud (refine wpList_append_own _ rfl _ _ 26 rfl w1.heap.size 9 i9 (.string ⟨#[]⟩) 1 16 Tryz.underlying26 HP9.out.1 HP9.out.2.1 HP9.out.2.2.1 HP9.out.2.2.2 rfl (by decide) _ _ _ rfl (HI.out.1.alloc _) ⟨wr.heap.size, 0, none⟩ 1 1 [.string X] rfl rfl (cell_one_new _ _ _) (by simp [Value.oneCell']) (by unfold maxLen; omega) (by omega) (by simp; omega) ?_)))
              intro v' w4 ho hg4 _
              have HO4 : Hid (w4.ownsRow w1.heap.size 9 1 v' (wdF (cs.take m)).1.length (strs ((wdF (cs.take m)).1.map List.flatten))) := Lib.hid (by rw [HRUN.out]; simp only [List.length_append, List.map_append, List.map_cons, List.map_nil, strs_app, List.length_cons, List.length_nil]; rw [HX.out] at ho; exact ho)
              have HB4 : Hid (Below w1.heap.size w1 w4) := Lib.hid ((HI.out.2.alloc HI.out.2.size _).grown hg4 (by simp; omega) (fun k e => (HI.out.1.lt k e).1))
              clear ho hg4
              go_wp2
              go_roundw
              case rel => exact ⟨m + 1, by go_num, by omega, Lib.hid (fun _ => by rw [wd_blank (by have := HN.out; omega) HBL2.out]), Lib.hid ⟨by rw [wd_blank (by have := HN.out; omega) HBL2.out]; exact HO4.out, HB4.out⟩⟩
              case measure => simp [intOf]; omega
            · have hbl2 : isBl (cs.getD m []) = false := by unfold isBl; rw [hb2]; simpa using hb32
              have HBL2 := Lib.hid hbl2
              have HB322 : ((b2.toNat : Int) != 32) = true := by
                rw [bne_iff_ne]
                intro e
                exact hb32 (UInt8.toNat_inj.1 (by have : (32 : UInt8).toNat = 32 := rfl; omega))
              clear hb2 hbl2 hb32
              go_wp2
              go_roundw
              case rel => exact ⟨m + 1, by go_num, by omega, by omega, by trivial, Lib.hid (fun q h1 h2 => by
                by_cases e : q = m
                · rw [e]; exact HBL2.out
                · exact HNB.out q h1 (by omega))⟩
              case measure => simp [intOf]; omega
          · obtain rfl : m = n := by omega
            have HJN : Hid (∀ W, Below w1.heap.size w1 W → Calls Tryz.prog 37 #[.slice (some ⟨g9, j, none⟩) (m - j) (c9 - j)] W fun e w' => e = .returned (.string (tx ((cs.drop j).take (m - j)).flatten)) ∧ W = w') := Lib.hid (fun W hW => rjoin _ _ (by
              have h1 := flat_short ((cs.drop j).take (m - j)) (fun c hc => HSH.out c (List.mem_of_mem_drop (List.mem_of_mem_take hc)))
              have h2 : ((cs.drop j).take (m - j)).length ≤ 700000 := by rw [List.length_take]; omega
              omega) W (by
              obtain ⟨g', e', h1, h2, h3⟩ := HR.out W hW j (by have := HN.out; omega)
              obtain rfl : g9 = g' := by simpa using e'
              exact TxV.sub h1 h3 (by have := HN.out; omega) h2 (by have := HN.out; omega)))
            have hjm2 : j < m := by
              rcases Nat.lt_or_ge j m with q | q
              · exact q
              · exfalso
                obtain rfl : j = m := by omega
                omega
            have HRUN := Lib.hid (wd_run HOP1.out (m - j - 1) (by have := HN.out; omega) (fun q h1 h2 => HNB.out q h1 (by omega)))
            rw [show j + (m - j - 1) + 1 = m by omega, show m - j - 1 + 1 = m - j by omega] at HRUN
            have hmc : m ≤ c9 := by have := HN.out; omega
            obtain ⟨X, hX⟩ : ∃ X, X = tx ((cs.drop j).take (m - j)).flatten := ⟨_, rfl⟩
            have HX := Lib.hid hX
            rw [← hX] at HJN
            have hbs := HI.out.2.size
            have hwl := HWL.out.1
            have hwl2 : (wdF (cs.take j)).1.length ≤ 700000 := by rw [List.length_take] at hwl; omega
            clear hX hwl
            go_wp2_with (first | (go_at_call 37; refine (HJN.out _ HI.out.2).mono ?_; rintro e w9 ⟨rfl, rfl⟩) | (at_builtin; go_loud (refine wpList_append_own _ rfl _ _ 26 rfl w1.heap.size 9 i9 (.string ⟨#[]⟩) 1 16 Tryz.underlying26 HP9.out.1 HP9.out.2.1 HP9.out.2.2.1 HP9.out.2.2.2 rfl (by decide) _ _ _ rfl (HI.out.1.alloc _) ⟨wr.heap.size, 0, none⟩ 1 1 [.string X] rfl rfl (cell_one_new _ _ _) (by simp [Value.oneCell']) (by unfold maxLen; omega) (by omega) (by simp; omega) ?_)))
            intro v' w4 ho hg4 _
            have HO4 : Hid (w4.ownsRow w1.heap.size 9 1 v' (wdF (cs.take m)).1.length (strs ((wdF (cs.take m)).1.map List.flatten))) := Lib.hid (by rw [HRUN.out]; simp only [List.length_append, List.map_append, List.map_cons, List.map_nil, strs_app, List.length_cons, List.length_nil]; rw [HX.out] at ho; exact ho)
            have HB4 : Hid (Below w1.heap.size w1 w4) := Lib.hid ((HI.out.2.alloc HI.out.2.size _).grown hg4 (by simp; omega) (fun k e => (HI.out.1.lt k e).1))
            clear ho hg4
            go_wp2
            go_roundw
            case rel => exact ⟨m + 1, by go_num, by omega, Lib.hid (fun h => absurd h (by omega)), Lib.hid ⟨by rw [List.take_of_length_le (by have := HN.out; omega)]; have h := HO4.out; rw [List.take_of_length_le (by have := HN.out; omega)] at h; exact h, HB4.out⟩⟩
            case measure => simp [intOf]; omega
    · have HE : Hid (wr.ownsRow w.heap.size 9 1 (.slice xv (wdF (cs.take j)).1.length cv) (wds q).length (strs ((wds q).map List.flatten))) := Lib.hid (by
        have h := World.ownsRow.mono HI.out.1 HBW.out.size
        rw [List.take_of_length_le (by have := HN.out; omega), ← HW.out] at h ⊢
        exact h)
      generalize (wdF (cs.take j)).1.length = N at HE ⊢
      go_wp2
      go_ret
      exact ⟨_, rfl, HE.out, HBW.out.trans (below_le HI.out.2 HBW.out.size)⟩
end Go.Proofs.YtdehjofmangmbaaGreat
