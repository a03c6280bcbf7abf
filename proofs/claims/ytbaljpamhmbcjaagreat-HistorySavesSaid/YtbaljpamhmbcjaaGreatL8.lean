/- Walk: the reference's Load, where so many lines may be. -/
import Derived.Test.YtbaljpamhmbcjaaGreatL7
namespace Go.Proofs.YtbaljpamhmbcjaaGreat
open Go.RowKit Go.Shelf Go.Lib
theorem loadE_all {m : Int} {s : Bs} (h1 : 1 ≤ m) (h2 : m ≤ 256) : loadE m s = if okB s (splitL s).1.length = false then 7 else if twB (splitL s).1 (splitL s).1.length = true then 1 else if m < ((splitL s).1.length : Int) then 3 else 0 := by
  unfold loadE okB twB
  rw [if_neg (by omega), List.take_length]
  by_cases h3 : (splitL s).2 = []
  · by_cases h4 : (splitL s).1.all mayS = true
    · rw [if_neg (by rw [h4]; simp [h3]), decide_eq_true h3, h4]
      by_cases h5 : (splitL s).1.Nodup
      · simp [h5]
      · simp [h5]
    · have h5 : (splitL s).1.all mayS = false := by simpa using h4
      rw [if_pos (.inr h5), h5]; simp
  · rw [if_pos (.inl h3), decide_eq_false h3]; simp
set_option maxRecDepth 100000 in
set_option maxHeartbeats 4000000 in
theorem rLoad_ok (m : Int) (hm1 : 1 ≤ m) (hm2 : m ≤ 256) (s : Bs) (hs : s.length ≤ 800000) (hn : (splitL s).1.length ≤ 1000) (w : World) : Calls Tryz.prog 5 #[.int .i64 m, .string (tx s)] w (RLoadEnd m s w) := by
  obtain ⟨i0, hi, hz0, hz1, hz2⟩ := info_parts9
  have HI9 := Lib.hid (And.intro hi (And.intro hz0 (And.intro hz1 hz2)))
  clear hi hz0 hz1 hz2
  have HN := Lib.hid (fun W => rNew m hm1 hm2 W)
  have HZ : Hid (rV m none 0 0 Wk.no = .agg #[.int .i64 m, .slice none 0 0, .bool false, .string ⟨#[]⟩, .string ⟨#[]⟩, .int .i64 0]) := Lib.hid rfl
  rw [HZ.out] at HN
  have HRL := Lib.hid (fun (w1 : World) hb => rl_new (w := w) (w1 := w1) (V := #[.int .i64 m, .slice none 0 0, .bool false, .string ⟨#[]⟩, .string ⟨#[]⟩, .int .i64 0]) hb)
  have HLI := Lib.hid (fun W => rlines s hs W)
  have HLE := Lib.hid (loadE_all (s := s) hm1 hm2)
  have HOK0 : Hid (okB s 0 = decide ((splitL s).2 = [])) := Lib.hid (by simp [okB])
  have HTW0 : Hid (twB (splitL s).1 0 = false) := Lib.hid (by simp [twB])
  have HOS := Lib.hid (fun j hj => okB_step (s := s) (j := j) hj)
  have HTS := Lib.hid (fun j hj => twB_step (L := (splitL s).1) (j := j) hj)
  have HMAY := Lib.hid (fun j W => rmay ((splitL s).1.getD j []) (by
    by_cases hj : j < (splitL s).1.length
    · have := (splitL_len s).2.2.2 ((splitL s).1.getD j []) (by rw [List.getD_eq_getElem?_getD, List.getElem?_eq_getElem hj]; exact List.getElem_mem hj)
      omega
    · rw [List.getD_eq_getElem?_getD, List.getElem?_eq_none (by omega)]; simp) W)
  have HLL : Hid ((splitL s).1.length ≤ 1000) := Lib.hid hn
  rw [← HOK0.out] at HLI
  obtain ⟨L, hL⟩ : ∃ L, L = (splitL s).1 := ⟨_, rfl⟩
  rw [← hL] at HLI HLE HOS HTW0 HTS HMAY HLL
  have HL := Lib.hid hL
  clear hL hn hs hm1 hm2 HOK0 HTW0
  have HTW0 : Hid (twB L 0 = false) := Lib.hid (by simp [twB])
  generalize okB s = OB at HLI HLE HOS
  generalize twB L = TB at HLE HTS HTW0
  go_enter Tryz.func5, Tryz.ntmps5
  go_wp2_with (first | (go_at_call 18; fail))
  go_at_call 18
  refine (HN.out _).mono ?_
  rintro e w1 ⟨rfl, hb1⟩
  have HR := Lib.hid (HRL.out w1 hb1)
  clear hb1 HN HRL HZ
  go_upto_region 2 with (fail)
  obtain ⟨W, hW⟩ : ∃ W, W = w1.alloc (.cells #[.int .i64 m, .slice none 0 0, .bool false, .string ⟨#[]⟩, .string ⟨#[]⟩, .int .i64 0] 28) := ⟨_, rfl⟩
  rw [← hW] at HR ⊢
  clear hW
  obtain ⟨g, hg⟩ : ∃ g, g = w1.heap.size := ⟨_, rfl⟩
  rw [← hg] at HR ⊢
  clear hg
  go_wp2_with (first | (go_at_call 19; fail))
  go_at_call 19
  refine (HLI.out _).mono ?_
  rintro e w2 ⟨v, rfl, hr2, hb2⟩
  obtain ⟨y, d, rfl⟩ := ownsRow_is hr2
  have H2 : Hid (Rl w w2 g #[.int .i64 m, .slice none 0 0, .bool false, .string ⟨#[]⟩, .string ⟨#[]⟩, .int .i64 0] ∧ SeesL w2 y d L) := Lib.hid ⟨HR.out.below hb2, RowL.sees (row_base hr2) HLL.out⟩
  clear hr2 hb2 HR HLI
  obtain ⟨n, hn⟩ : ∃ n, n = L.length := ⟨_, rfl⟩
  have HN := Lib.hid hn
  have hnd : n ≤ d := by rw [hn]; exact H2.out.2.1
  have hnb : n ≤ 1000 := by rw [hn]; exact HLL.out
  rw [← hn] at HLE ⊢
  clear hn
  go_wp2
  go_loopw [9, 10, 11] (fun ok tw i wr => ∃ j : Nat, i = .int .i64 (j : Int) ∧ j ≤ n ∧ ok = .bool (OB j) ∧ tw = .bool (TB j) ∧ Hid (Rl w wr g #[.int .i64 m, .slice none 0 0, .bool false, .string ⟨#[]⟩, .string ⟨#[]⟩, .int .i64 0] ∧ SeesL wr y d L)) (fun _ _ i _ => n - (intOf i).toNat)
  case atStart => exact ⟨0, rfl, Nat.zero_le _, rfl, by rw [HTW0.out], H2⟩
  case round =>
    clear H2 HTW0
    obtain ⟨j, rfl, hj, rfl, rfl, HS⟩ := hrel
    by_cases hlt : j < n
    · have i1 : (0 : Int) ≤ (j : Int) := by omega
      have i2 : (j : Int) < (n : Int) := by omega
      have HO1 := Lib.hid (HOS.out j (by rw [← HN.out]; exact hlt))
      have HT1 := Lib.hid (HTS.out j (by rw [← HN.out]; exact hlt))
      have HM1 := Lib.hid (HMAY.out j)
      have HP1 := Lib.hid (fun (W : World) (hW : SeesL W y d L) => rplace y d (L.take j) (L.getD j []) (by have := HLL.out; simp; omega) W (hW.take j))
      have hlj : (L.take j).length = j := by have := HN.out; simp; omega
      rw [hlj] at HP1
      obtain ⟨X, hX⟩ : ∃ X, X = tx (L.getD j []) := ⟨_, rfl⟩
      obtain ⟨pl, hpl⟩ : ∃ p, p = placeI (L.take j) (L.getD j []) := ⟨_, rfl⟩
      obtain ⟨V, hV⟩ : ∃ V, V = mayS (L.getD j []) := ⟨_, rfl⟩
      rw [← hX] at HM1 HP1
      rw [← hpl] at HP1 HT1
      rw [← hV] at HO1 HM1
      have HX := Lib.hid hX
      clear hX hpl hV hlj
      obtain ⟨g2, rfl, hg2, hcx⟩ := HS.out.2.2.2 (by rw [← HN.out]; omega)
      have ce := hcx j (by rw [← HN.out]; exact hlt)
      rw [← HX.out] at ce
      have HQP := Lib.hid (fun (W' : World) (hW' : SeesL W' (some ⟨g2, 0, none⟩) d L) k => quiet_sym (HP1.out (W'.drewN k) (hW'.drewN k)))
      clear hcx
      have hjd : j ≤ d := by omega
      have HSK := Lib.hid (fun (W' : World) (hb : Below wr.heap.size wr W') (k : Nat) => (And.intro (HS.out.1.below (below_drewN hb k)) ((HS.out.2.below hb).drewN k)))
      cases hob : OB j with
      | false =>
        rw [hob] at HO1
        have HQ := Lib.hid (HQP.out wr HS.out.2)
        have HK := Lib.hid (HSK.out wr (Below.refl _ _))
        clear HQP HSK HP1
        cases htb : TB j with
        | true =>
          rw [htb] at HT1
          go_wp2
          go_quiet ((go_at_call 21; with_reducible exact HQ.out _))
          go_wp2
          go_roundw
          case rel => exact ⟨j + 1, by go_num, by omega, by rw [HO1.out]; rfl, by rw [HT1.out]; rfl, Lib.hid (HK.out _)⟩
          case measure => simp [intOf]; omega
        | false =>
          rw [htb] at HT1
          go_wp2
          go_quiet ((go_at_call 21; with_reducible exact HQ.out _))
          go_wp2
          go_roundw
          case rel => exact ⟨j + 1, by go_num, by omega, by rw [HO1.out]; rfl, by rw [HT1.out]; rfl, Lib.hid (HK.out _)⟩
          case measure => simp [intOf]; omega
      | true =>
        rw [hob] at HO1
        go_wp2_with (first | (go_at_call 20; fail))
        go_at_call 20
        refine (HM1.out _).mono ?_
        rintro e w3 ⟨rfl, hb3⟩
        have HQ := Lib.hid (HQP.out w3 (HS.out.2.below hb3))
        have HK := Lib.hid (HSK.out w3 hb3)
        replace ce := (hb3.cell (p := ⟨g2, j, none⟩) hg2).trans ce
        clear HQP HSK HP1 HM1 hb3
        cases htb : TB j with
        | true =>
          rw [htb] at HT1
          go_wp2
          go_quiet ((go_at_call 21; with_reducible exact HQ.out _))
          go_wp2
          go_roundw
          case rel => exact ⟨j + 1, by go_num, by omega, by rw [HO1.out]; rfl, by rw [HT1.out]; rfl, Lib.hid (HK.out _)⟩
          case measure => simp [intOf]; omega
        | false =>
          rw [htb] at HT1
          go_wp2
          go_quiet ((go_at_call 21; with_reducible exact HQ.out _))
          go_wp2
          go_roundw
          case rel => exact ⟨j + 1, by go_num, by omega, by rw [HO1.out]; rfl, by rw [HT1.out]; rfl, Lib.hid (HK.out _)⟩
          case measure => simp [intOf]; omega
    · obtain rfl : j = n := by omega
      clear HOS HTS HMAY
      obtain ⟨a0, a1, a2, a3, a4, a5, az⟩ := cells6 HS.out.1.res'
      have af0 := az 0
      have af1 := az 1
      have af2 := az 2
      have af3 := az 3
      have af4 := az 4
      have af5 := az 5
      clear az
      have hle := HLE.out
      have HF := Lib.hid (set6_heap HS.out.1.res' (.int .i64 0) (.slice none 0 0) (.bool false) (.string ⟨#[]⟩) (.string ⟨#[]⟩) (.int .i64 0))
      have HBB := Lib.hid (set6_below (B := w.heap.size) HS.out.1.bel (Nat.le_refl _) (.int .i64 0) (.slice none 0 0) (.bool false) (.string ⟨#[]⟩) (.string ⟨#[]⟩) (.int .i64 0))
      cases hob : OB j with
      | false =>
        rw [hob, if_pos rfl] at hle
        have HE := Lib.hid hle
        clear hle HS
        go_wp2
        refine bodyPost_ret (results_cell_tmp rfl _ _ w.heap.size 28 _ (0, 0) _ rfl HF.out Tryz.underlying28 rfl (by kernel_rfl)) rfl ?_
        exact RLoadEnd.bad HE.out (by decide) HBB.out
      | true =>
        rw [hob, if_neg (by decide)] at hle
        cases htb : TB j with
        | true =>
          rw [htb, if_pos rfl] at hle
          have HE := Lib.hid hle
          clear hle HS
          go_wp2
          refine bodyPost_ret (results_cell_tmp rfl _ _ w.heap.size 28 _ (0, 0) _ rfl HF.out Tryz.underlying28 rfl (by kernel_rfl)) rfl ?_
          exact RLoadEnd.bad HE.out (by decide) HBB.out
        | false =>
          rw [htb, if_neg (by decide)] at hle
          by_cases hm : m < (j : Int)
          · rw [if_pos hm] at hle
            have HE := Lib.hid hle
            clear hle HS
            go_wp2
            refine bodyPost_ret (results_cell_tmp rfl _ _ w.heap.size 28 _ (0, 0) _ rfl HF.out Tryz.underlying28 rfl (by kernel_rfl)) rfl ?_
            exact RLoadEnd.bad HE.out (by decide) HBB.out
          · rw [if_neg hm] at hle
            have HE := Lib.hid hle
            clear hle HF HBB
            go_wp2
            obtain ⟨wa, rfl⟩ : ∃ wa : World, wa = wr := ⟨_, rfl⟩
            go_loopw [12] (fun v wq => ∃ (z : Int) (k q : Nat), v = .int .i64 z ∧ z = (q : Int) - 1 ∧ q + k = j ∧ Hid (∃ x c, Rl2 wa wq g m (L.reverse.take k) x c)) (fun v _ => ((match v with | .int _ z => z + 1 | _ => 0) : Int).toNat)
            case atStart => exact ⟨(j : Int) - 1, 0, j, rfl, rfl, by omega, Lib.hid ⟨none, 0, HS.out.1.h, World.ownsRow_nil _ _ _ _, But.refl _ _, (Array.getElem?_eq_some_iff.1 HS.out.1.h).1⟩⟩
            case round =>
              obtain ⟨z, k, q, rfl, hz, hqk, HQ⟩ := hrel
              obtain ⟨x, c, hQ⟩ := HQ.out
              have HQ := Lib.hid hQ
              clear hQ
              by_cases hq0 : 0 < q
              · obtain ⟨p, hp⟩ : ∃ p : Nat, p + 1 = q := ⟨q - 1, by omega⟩
                have hzp : z = (p : Int) := by omega
                subst hzp
                have i1 : (0 : Int) ≤ (p : Int) := by omega
                have i2 : (p : Int) < (j : Int) := by omega
                have hpj : p < j := by omega
                have HSB := Lib.hid (sees_but HS.out.2 HS.out.1.h (V := #[.int .i64 m, .slice none 0 0, .bool false, .string ⟨#[]⟩, .string ⟨#[]⟩, .int .i64 0]) rfl HQ.out.but)
                obtain ⟨g3, rfl, hg3, hcx⟩ := HSB.out.2.2 (by rw [← HN.out]; omega)
                have ce := hcx p (by rw [← HN.out]; exact hpj)
                have hkl : (L.reverse.take k).length = k := by have := HN.out; simp; omega
                have HSN : Hid (L.reverse.take (k + 1) = L.reverse.take k ++ [L.getD p []]) := Lib.hid (by
                  have h1 : k < L.reverse.length := by have := HN.out; simp; omega
                  rw [takeL_snoc h1]
                  congr 2
                  rw [List.getD_eq_getElem?_getD, List.getD_eq_getElem?_getD, List.getElem?_reverse (by simpa using h1)]
                  congr 2
                  have := HN.out
                  omega)
                have hh := HQ.out.h
                have hrow := HQ.out.row
                rw [hkl] at hh hrow
                obtain ⟨c0, c1, c2, c3, c4, c5, cz⟩ := cells6 (show wr.heap[g]? = some (Obj.cells #[.int .i64 m, .slice x k c, .bool false, .string ⟨#[]⟩, .string ⟨#[]⟩, .int .i64 0] 28 (0, 0)) from hh)
                have f1 := cz 1
                obtain ⟨X, hX⟩ : ∃ X, X = tx (L.getD p []) := ⟨_, rfl⟩
                rw [← hX] at ce
                have HA := Lib.hid (fun (w2 : World) (x' : Option Addr) (c' : Nat) h1 h2 => Rl2.app (l := L.getD p []) (x' := x') (c' := c') (w2 := w2) HQ.out hX h1 h2)
                rw [hkl] at HA
                have HROW := Lib.hid hrow
                have hbs := HQ.out.but.size
                have hkb : k < 1000 := by omega
                have hgl : g < wr.heap.size := by have := HQ.out.gB; omega
                clear hh hrow cz hX hcx hz
                go_upto_region 20 with (fail)
                go_region_law (refine step_append_own rfl (.tmp 74) (.tmp 79) 22 rfl wa.heap.size 9 i0 (.string ⟨#[]⟩) 1 16 Tryz.underlying22 HI9.out.1 HI9.out.2.1 HI9.out.2.2.1 HI9.out.2.2.2 rfl (by decide) _ _ _ rfl (HROW.out.drew.alloc _) ⟨wr.heap.size, 0, none⟩ 1 1 [.string X] rfl rfl (cell_one_new _ _ _) (by simp [Value.oneCell']) (by unfold maxLen; omega) (by omega) (by simp; omega) ?_; intro v' w' hown' hgrow' hat'; obtain ⟨x', c', rfl⟩ := ownsRow_is hown'; obtain ⟨c1', f1', hn'⟩ := HA.out w' x' c' hown' hgrow'; have HNX := Lib.hid hn'; clear hn' hown' hgrow' hat')
                all_goals
                  go_wp2
                  go_roundw
                  case rel => exact ⟨(p : Int) - 1, k + 1, p, rfl, rfl, by omega, Lib.hid ⟨x', c', by rw [HSN.out]; exact HNX.out⟩⟩
                  case measure => (first | (simp; done) | (simp; omega))
              · have hz1 : z = -1 := by omega
                have hkj : k = j := by omega
                subst hz1 hkj
                have hkl : L.reverse.take k = L.reverse := List.take_of_length_le (by have := HN.out; simp; omega)
                rw [hkl] at HQ
                have hlr : L.reverse.length = k := by have := HN.out; simp; omega
                have hh := HQ.out.h
                rw [hlr] at hh
                have hres : wr.heap[w.heap.size]? = some (.cells #[.int .i64 0, .slice none 0 0, .bool false, .string ⟨#[]⟩, .string ⟨#[]⟩, .int .i64 0] 28 (0, 0)) := HQ.out.but.heap HS.out.1.res' (by have := HS.out.1.gg; simp; omega)
                clear a0 a1 a2 a3 a4 a5 af0 af1 af2 af3 af4 af5
                obtain ⟨a0, a1, a2, a3, a4, a5, az⟩ := cells6 hres
                have af0 := az 0
                have af1 := az 1
                have af2 := az 2
                have af3 := az 3
                have af4 := az 4
                have af5 := az 5
                obtain ⟨c0, c1, c2, c3, c4, c5, -⟩ := cells6 (show wr.heap[g]? = some (Obj.cells #[.int .i64 m, .slice x k c, .bool false, .string ⟨#[]⟩, .string ⟨#[]⟩, .int .i64 0] 28 (0, 0)) from hh)
                have HF := Lib.hid (set6_heap hres (.int .i64 m) (.slice x k c) (.bool false) (.string ⟨#[]⟩) (.string ⟨#[]⟩) (.int .i64 0))
                have HBB : Hid (RLoadEnd m s w (.returned (.tuple #[.agg #[.int .i64 m, .slice x k c, .bool false, .string ⟨#[]⟩, .string ⟨#[]⟩, .int .i64 0], .int .i64 0])) ((((((wr.setCell ⟨w.heap.size, 0, none⟩ (.int .i64 m)).setCell ⟨w.heap.size, 1, none⟩ (.slice x k c)).setCell ⟨w.heap.size, 2, none⟩ (.bool false)).setCell ⟨w.heap.size, 3, none⟩ (.string ⟨#[]⟩)).setCell ⟨w.heap.size, 4, none⟩ (.string ⟨#[]⟩)).setCell ⟨w.heap.size, 5, none⟩ (.int .i64 0))) := Lib.hid (by
                  have hgw := HS.out.1.gg
                  have hgB := HQ.out.gB
                  refine ⟨set6_below (HS.out.1.bel.trans (HQ.out.but.toBelow (by have := HS.out.1.bel.size; omega) (fun i hi => by simp at hi; omega))) (Nat.le_refl _) _ _ _ _ _ _, .inr ⟨HE.out, x, c, ?_, ?_⟩⟩
                  · rw [← HL.out, hlr]; rfl
                  · rw [← HL.out]
                    have hss := RowL.sees (row_base HQ.out.row) (by have := HN.out; simp; omega)
                    refine ⟨hss.1, hss.2.1, fun hp => ?_⟩
                    obtain ⟨i, h1, h2, h3⟩ := hss.2.2 hp
                    have hiB := (HQ.out.row.lt i (by rw [h1]; rfl)).1
                    exact ⟨i, h1, by simpa using h2, fun q hq => (World.cell?_of_block (a := ⟨i, q, none⟩) (set6_other (by show i ≠ w.heap.size; omega) _ _ _ _ _ _)).trans (h3 q hq)⟩)
                clear az hh hres hkl hlr hz hqk hj hnd hnb HQ HS
                go_wp2
                refine bodyPost_ret (results_cell_tmp rfl _ _ w.heap.size 28 _ (0, 0) _ rfl HF.out Tryz.underlying28 rfl (by kernel_rfl)) rfl ?_
                exact HBB.out
end Go.Proofs.YtbaljpamhmbcjaaGreat
