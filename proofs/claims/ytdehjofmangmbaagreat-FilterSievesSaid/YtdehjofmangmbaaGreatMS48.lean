/- Own texts, merged: FY. -/
import Derived.Test.YtdehjofmangmbaaGreatMS45
/- Walks: the reference's Sieve. -/
namespace Go.Proofs.YtdehjofmangmbaaGreat
open Go.RowKit Go.Shelf
theorem idc_at {W : World} {b c : Nat} {x : Option Addr} {L : List PrC} (h : W.ownsRow b 3 1 (.slice x L.length c) L.length (ints (idc L))) (hne : L ≠ []) : ∃ g, x = some ⟨g, 0, none⟩ ∧ b ≤ g ∧ g < W.heap.size ∧ L.length ≤ c ∧ ∀ W', Below W.heap.size W W' → ∀ s t, s + t ≤ L.length → ∀ j u, (ints (idc ((L.drop s).take t)))[j]? = some u → W'.cell? ((⟨g, s, none⟩ : Addr).add j) = some u := by
  obtain ⟨g, e, hge, hg, hc, hget⟩ := row_src h (List.length_pos_iff.2 hne)
  refine ⟨g, e, hge, hg, hc, fun W' hW s t hst j u hu => ?_⟩
  rw [addrk, hW.cell (p := ⟨g, s + j, none⟩) hg]
  refine hget (s + j) u ?_
  have hj : j < t := by
    rcases Nat.lt_or_ge j t with q | q
    · exact q
    · rw [List.getElem?_eq_none (by rw [ints_len, idc_len, List.length_take]; omega)] at hu; cases hu
  unfold ints idc at hu ⊢
  rw [List.getElem?_map, List.getElem?_map, List.getElem?_take, if_pos hj, List.getElem?_drop] at hu
  rw [List.getElem?_map, List.getElem?_map]
  exact hu
theorem prcs_drop : ∀ (s : Nat) (L : List PrC), prcs (L.drop s) = (prcs L).drop (s * 4)
  | 0, L => by simp
  | s + 1, [] => by simp [prcs]
  | s + 1, x :: L => by
    rw [List.drop_succ_cons, prcs_drop s L]
    have e : prcs (x :: L) = x.c ++ prcs L := by simp [prcs]
    have hc : x.c.length = 4 := rfl
    rw [e, show (s + 1) * 4 = x.c.length + s * 4 by omega, List.drop_append]
    simp
theorem prcs_take : ∀ (s : Nat) (L : List PrC), prcs (L.take s) = (prcs L).take (s * 4)
  | 0, L => by simp [prcs]
  | s + 1, [] => by simp [prcs]
  | s + 1, x :: L => by
    rw [List.take_succ_cons]
    have e : ∀ L, prcs (x :: L) = x.c ++ prcs L := fun L => by simp [prcs]
    have hc : x.c.length = 4 := rfl
    rw [e, e, prcs_take s L, show (s + 1) * 4 = x.c.length + s * 4 by omega, List.take_append, List.take_of_length_le (l := x.c) (by omega), Nat.add_sub_cancel_left]
theorem prcs_at {W : World} {b c : Nat} {x : Option Addr} {L : List PrC} (h : W.ownsRow b 56 4 (.slice x L.length c) L.length (prcs L)) (hne : L ≠ []) : ∃ g, x = some ⟨g, 0, none⟩ ∧ b ≤ g ∧ g < W.heap.size ∧ L.length ≤ c ∧ (∀ W', Below W.heap.size W W' → ∀ s t, s + t ≤ L.length → ∀ j u, (prcs ((L.drop s).take t))[j]? = some u → W'.cell? ((⟨g, s * 4, none⟩ : Addr).add j) = some u) ∧
    ∀ W', Below W.heap.size W W' → ∀ j (hj : j < L.length), W'.cell? ⟨g, j * 4, none⟩ = some (.bool true) ∧ W'.cell? ⟨g, j * 4 + 1, none⟩ = some (.int .i64 L[j].rk) ∧ W'.cell? ⟨g, j * 4 + 2, none⟩ = some (.int .i64 L[j].gp) ∧ W'.cell? ⟨g, j * 4 + 3, none⟩ = some (.slice L[j].a L[j].n L[j].k) := by
  obtain ⟨g, e, hge, hg, hc, hget⟩ := row_src h (List.length_pos_iff.2 hne)
  refine ⟨g, e, hge, hg, hc, fun W' hW s t hst j u hu => ?_, fun W' hW j hj => ?_⟩
  · rw [addrk, hW.cell (p := ⟨g, s * 4 + j, none⟩) hg]
    refine hget (s * 4 + j) u ?_
    rw [prcs_take, prcs_drop] at hu
    have hj : j < t * 4 := by
      rcases Nat.lt_or_ge j (t * 4) with q | q
      · exact q
      · rw [List.getElem?_eq_none (by rw [List.length_take]; omega)] at hu; cases hu
    rw [List.getElem?_take, if_pos hj, List.getElem?_drop] at hu
    exact hu
  · obtain ⟨k0, k1, k2, k3⟩ := prcs_get L j hj
    exact ⟨(hW.cell (p := ⟨g, j * 4, none⟩) hg).trans (hget _ _ k0), (hW.cell (p := ⟨g, j * 4 + 1, none⟩) hg).trans (hget _ _ k1), (hW.cell (p := ⟨g, j * 4 + 2, none⟩) hg).trans (hget _ _ k2), (hW.cell (p := ⟨g, j * 4 + 3, none⟩) hg).trans (hget _ _ k3)⟩
set_option maxRecDepth 100000 in
set_option maxHeartbeats 8000000 in
theorem rsieve (q : Bs) (vo : Value) (opts : List Bs) (hq : q.length ≤ 200) (ho : ∀ s ∈ opts, s.length ≤ 10000) (hol : opts.length ≤ 1000) (w : World) (h1 : TxV w vo opts) : Calls Tryz.prog 25 #[.string (tx q), vo] w fun e w' => ∃ v, e = .returned v ∧ IntO w.heap.size w' v (sieT q opts) ∧ Below w.heap.size w w' := by
  have HST : Hid (sieT q opts = ((plcs (wds q) opts).foldl insQ []).map (·.2.2)) := Lib.hid rfl
  rw [HST.out]
  have HB := Lib.hid (fun W => rWords q (by omega) W)
  unfold WrdEnd at HB
  have hlb := wds_len q
  have hlb2 := clS_len q
  have HKD : Hid (∀ s ∈ opts, ∀ f, kepS (clS s) (wds q) = some f → f.rank ≤ 2800000 ∧ f.gaps ≤ 490000000000) := Lib.hid (fun s hs f hf => by
    have := ks_bd (a := s) (b := q) (ho s hs) (by omega) hf
    exact ⟨this.1, this.2.1⟩)
  have HPR := Lib.hid (fun (s : Bs) (hs : s ∈ opts) v2 W (h2 : TxV W v2 ((wds q).map List.flatten)) => rprice s (wds q) v2 (ho s hs) (wds_ok q hq) (by omega) W h2)
  unfold PrEnd at HPR
  have HL : Hid (((wds q).map List.flatten).length ≤ 1000000) := Lib.hid (by rw [List.length_map]; omega)
  rw [← List.length_map (f := List.flatten)] at HB
  generalize hWF : (wds q).map List.flatten = wf at HB HPR HL
  generalize wds q = ws at HKD HPR hWF ⊢
  generalize tx q = TQ at HB ⊢
  obtain ⟨xo, co, rfl, hoc, ho6, hog⟩ := h1.old
  have HG := Lib.hid hog
  obtain ⟨n, hn⟩ : ∃ n, n = opts.length := ⟨_, rfl⟩
  have HN := Lib.hid hn
  rw [← hn] at hoc ho6 hol ⊢
  clear h1 hn hog hlb hlb2 hq ho HST hWF
  go_enter Tryz.func25, Tryz.ntmps25
  go_wp2_with (first | (go_at_call 14; fail))
  refine (HB.out w).mono ?_
  rintro e w1 ⟨v1, rfl, h1, hb1⟩
  have ht1 := TxV.of_row h1 HL.out
  have HV1 := Lib.hid ht1
  have HB1 := Lib.hid hb1
  obtain ⟨x1, c1, rfl, _⟩ := ht1.old
  clear h1 ht1 hb1 HB HL
  go_wp2
  go_loopw [6, 7, 8] (fun vo vp iv wr => ∃ (k : Nat) (L : List PrC) (x : Option Addr) (c : Nat) (y : Option Addr) (d : Nat), iv = .int .i64 (k : Int) ∧ vo = .slice x L.length c ∧ vp = .slice y L.length d ∧ k ≤ n ∧ L.length ≤ k ∧ (L = [] → x = none ∧ c = 0 ∧ y = none ∧ d = 0) ∧ Hid (L.map PrC.p = (plcN ws opts k).foldl insQ []) ∧ Hid (wr.ownsRow w1.heap.size 3 1 (.slice x L.length c) L.length (ints (idc L))) ∧ Hid (wr.ownsRow w1.heap.size 56 4 (.slice y L.length d) L.length (prcs L)) ∧ Hid (Below w1.heap.size w1 wr)) (fun _ _ iv _ => n - (intOf iv).toNat)
  case atStart => exact ⟨0, [], none, 0, none, 0, rfl, rfl, rfl, Nat.zero_le _, Nat.le_refl _, fun _ => ⟨rfl, rfl, rfl, rfl⟩, Lib.hid rfl, Lib.hid (World.ownsRow_nil _ _ _ _), Lib.hid (World.ownsRow_nil _ _ _ _), Lib.hid (Below.refl _ _)⟩
  case round =>
    obtain ⟨k, L, x, c, y, d, rfl, rfl, rfl, hk, hLk, hnil, HL, HO, HP, HBB⟩ := hrel
    have HNI := Lib.hid hnil
    clear hnil
    have i1 : (0 : Int) ≤ (k : Int) := by omega
    by_cases hlt : k < n
    · have i2 : (k : Int) < (n : Int) := by omega
      have hkl : k < opts.length := by have := HN.out; omega
      obtain ⟨go, oo, rfl, hgo, hget⟩ := HG.out (List.ne_nil_of_length_pos (by omega))
      have ce : wr.cell? ⟨go, oo + k, none⟩ = some (.string (tx (opts.getD k []))) := (HBB.out.cell (p := ⟨go, oo + k, none⟩) (Nat.lt_of_lt_of_le hgo HB1.out.size)).trans ((HB1.out.cell (p := ⟨go, oo + k, none⟩) hgo).trans (hget k hkl))
      have hmem : opts.getD k [] ∈ opts := by rw [List.getD_eq_getElem?_getD, List.getElem?_eq_getElem hkl]; exact List.getElem_mem _
      have HPK := Lib.hid (fun v2 W h2 => HPR.out _ hmem v2 W h2)
      have HBK := Lib.hid (fun f hf => HKD.out _ hmem f hf)
      have H74 := Lib.hid (plcN_succ ws opts k)
      generalize opts.getD k [] = s at ce HPK HBK H74
      generalize tx s = TS at ce HPK
      clear hget hmem hkl
      go_wp2_with (first | (go_at_call 39; fail))
      refine (HPK.out _ wr (HV1.out.below HBB.out)).mono ?_
      rintro e w3 ⟨v3, rfl, hv3, hb3⟩
      have HO3 := Lib.hid (row_kept HO.out (fun j hj => hb3.block j (HO.out.lt j hj).2))
      have HP3 := Lib.hid (row_kept HP.out (fun j hj => hb3.block j (HP.out.lt j hj).2))
      have HB3 := Lib.hid (HBB.out.trans (below_le hb3 HBB.out.size))
      clear HO HP HBB hb3 ce HPK
      cases hR : kepS (clS s) ws with
      | none =>
        rw [hR] at hv3
        obtain rfl : v3 = .agg #[.bool false, .int .i64 0, .int .i64 0, .slice none 0 0] := hv3
        have HLN : Hid (L.map PrC.p = (plcN ws opts (k + 1)).foldl insQ []) := Lib.hid (by rw [H74.out, hR, HL.out]; simp)
        have HO4 := Lib.hid (HO3.out.alloc (.cells #[.bool false, .int .i64 0, .int .i64 0, .slice none 0 0] 56))
        have HP4 := Lib.hid (HP3.out.alloc (.cells #[.bool false, .int .i64 0, .int .i64 0, .slice none 0 0] 56))
        have HB4 := Lib.hid (HB3.out.alloc HB3.out.size (.cells #[.bool false, .int .i64 0, .int .i64 0, .slice none 0 0] 56))
        clear HL H74 hR HO3 HP3 HB3
        go_wp2
        go_roundw
        case rel => exact ⟨k + 1, L, x, c, y, d, by go_num, rfl, rfl, by omega, by omega, HNI.out, HLN, HO4, HP4, HB4⟩
        case measure => simp [intOf]; omega
      | some f =>
        rw [hR] at hv3
        obtain ⟨g3, rfl, hg3, _⟩ := hv3
        obtain ⟨hf1, hf2⟩ := HBK.out f hR
        have HLN : Hid ((plcN ws opts (k + 1)).foldl insQ [] = insQ (L.map PrC.p) (f.rank, f.gaps, k)) := Lib.hid (by rw [H74.out, hR, List.foldl_append, HL.out]; rfl)
        generalize (clS s).length = m3
        obtain ⟨N, hN⟩ : ∃ N : PrC, N = ⟨f.rank, f.gaps, some ⟨g3, 0, none⟩, m3, m3, k, by omega⟩ := ⟨_, rfl⟩
        have HNP : Hid (N.p = (f.rank, f.gaps, k)) := Lib.hid (by rw [hN]; rfl)
        have HNC : Hid (prcs [N] = [.bool true, .int .i64 f.rank, .int .i64 f.gaps, .slice (some ⟨g3, 0, none⟩) m3 m3] ∧ ints (idc [N]) = [.int .i64 (k : Int)]) := Lib.hid (by rw [hN]; exact ⟨rfl, rfl⟩)
        have HO4 := Lib.hid (HO3.out.alloc (.cells #[.bool true, .int .i64 f.rank, .int .i64 f.gaps, .slice (some ⟨g3, 0, none⟩) m3 m3] 56))
        have HP4 := Lib.hid (HP3.out.alloc (.cells #[.bool true, .int .i64 f.rank, .int .i64 f.gaps, .slice (some ⟨g3, 0, none⟩) m3 m3] 56))
        have HB4 := Lib.hid (HB3.out.alloc HB3.out.size (.cells #[.bool true, .int .i64 f.rank, .int .i64 f.gaps, .slice (some ⟨g3, 0, none⟩) m3 m3] 56))
        have HC4 : Hid (C4 56 (w3.alloc (.cells #[.bool true, .int .i64 f.rank, .int .i64 f.gaps, .slice (some ⟨g3, 0, none⟩) m3 m3] 56)) w3.heap.size (.bool true) (.int .i64 f.rank) (.int .i64 f.gaps) (.slice (some ⟨g3, 0, none⟩) m3 m3)) := Lib.hid (heap_alloc_new _ _)
        clear H74 hR HO3 HP3 HB3 hg3 hN
        go_upto_region 8 with (fail)
        generalize (w3.alloc (.cells #[.bool true, .int .i64 f.rank, .int .i64 f.gaps, .slice (some ⟨g3, 0, none⟩) m3 m3] 56)) = W4 at HO4 HP4 HB4 HC4 ⊢
        generalize w3.heap.size = pb at HC4 ⊢
        obtain ⟨e0, _, _, _⟩ := HC4.out.cells
        have hL1 : L.length ≤ 1000 := by omega
        go_wp2
        go_loopw [10] (fun jv wr => ∃ j : Nat, jv = .int .i64 (j : Int) ∧ j ≤ L.length ∧ Hid (∀ t, j ≤ t → t < (L.map PrC.p).length → drr ((L.map PrC.p).getD t (0, 0, 0)) (f.rank, f.gaps, k) = true) ∧ Hid (Below W4.heap.size W4 wr)) (fun jv _ => (intOf jv).toNat)
        case atStart => exact ⟨L.length, rfl, Nat.le_refl _, Lib.hid (fun t a b => by rw [List.length_map] at b; omega), Lib.hid (Below.refl _ _)⟩
        case round =>
          obtain ⟨j, rfl, hj, HDR, HBJ⟩ := hrel
          have j1 : (0 : Int) ≤ (j : Int) := by omega
          clear e0
          rcases Nat.eq_zero_or_pos j with hj0 | hj0
          · subst hj0
            have HKA : Hid (kAt (L.map PrC.p) (f.rank, f.gaps, k) (L.map PrC.p).length = 0) := Lib.hid (kAt_is _ (Nat.zero_le _) HDR.out (.inl rfl))
            have HBE : Hid (∀ nq, Below W4.heap.size W4 (wr.drewN nq)) := Lib.hid (fun nq => below_drewN HBJ.out nq)
            have HJL : Hid ((0 : Nat) ≤ L.length) := Lib.hid (Nat.zero_le _)
            clear HDR HBJ
            go_wp2
            go_quiet (fail)
            have HBX := Lib.hid (HBE.out nq)
            generalize wr.drewN nq = W5 at HBX ⊢
            clear HBE
            have HO5 := Lib.hid (row_kept HO4.out (fun j hj => HBX.out.block j (HO4.out.lt j hj).2))
            have HP5 := Lib.hid (row_kept HP4.out (fun j hj => HBX.out.block j (HP4.out.lt j hj).2))
            have hJL := HJL.out
            by_cases hne : L = []
            · obtain ⟨rfl, rfl, rfl, rfl⟩ := HNI.out hne
              subst hne
              have l0 : ([] : List PrC).length = 0 := rfl
              rw [l0] at HO5 HP5 ⊢
              have e1 := empty_row W5 3 1
              obtain ⟨v7, w7, hr1, ho1, hg1⟩ := app_int e1 none 0 0 (ints (idc ((([] : List PrC).drop 0).take 0))) (by rw [ints_len, idc_len, List.length_take, List.drop_zero]; omega) (.inl ⟨rfl, rfl, rfl⟩) (ints_one _) (by omega) (by simp) 30
              have hB7 : Below W5.heap.size W5 w7 := ((Below.refl W5.heap.size W5).alloc (Nat.le_refl _) _).grown hg1 (by simp) (fun k e => (e1.lt k e).1)
              have hs7 := hB7.size
              obtain ⟨v9, w9, hr2, ho2, hg2⟩ := app_int (ho1.alloc (.cells #[.int .i64 (k : Int)] 3)) (some ⟨w7.heap.size, 0, none⟩) 1 1 [.int .i64 (k : Int)] rfl (.inr ⟨_, rfl, cell_one_new _ _ _⟩) (by simp [Value.oneCell']) (by omega) (by simp; omega) 30
              have hB9 : Below W5.heap.size W5 w9 := (hB7.alloc hs7 _).grown hg2 (by simp; omega) (fun k e => (ho1.lt k e).1)
              have hs9 := hB9.size
              obtain ⟨v10, w10, hr3, ho3, hg3'⟩ := app_int ho2 none (0 - 0) 0 (ints (idc ((([] : List PrC).drop 0).take (0 - 0)))) (by rw [ints_len, idc_len, List.length_take, List.length_drop]; omega) (.inl ⟨rfl, rfl, rfl⟩) (ints_one _) (by omega) (by omega) 30
              have hB10 : Below W5.heap.size W5 w10 := hB9.grown hg3' (by omega) (fun k e => (ho2.lt k e).1)
              have hs10 := hB10.size
              have e2 := empty_row w10 56 4
              obtain ⟨v12, w12, hr4, ho4, hg4⟩ := app_prc e2 none 0 0 (prcs ((([] : List PrC).drop 0).take 0)) (by rw [prcs_len, List.length_take, List.drop_zero]; omega) (.inl ⟨rfl, rfl, rfl⟩) (prcs_one _) (by omega) (by simp) 74
              have hB12 : Below W5.heap.size W5 w12 := (hB10.alloc hs10 _).grown hg4 (by simp; omega) (fun k e => by have := (e2.lt k e).1; omega)
              have hs12 := hB12.size
              have hB12' : Below w10.heap.size w10 w12 := ((Below.refl w10.heap.size w10).alloc (Nat.le_refl _) _).grown hg4 (by simp) (fun k e => (e2.lt k e).1)
              obtain ⟨v14, w14, hr5, ho5, hg5⟩ := app_prc (ho4.alloc (.cells #[.bool true, .int .i64 f.rank, .int .i64 f.gaps, .slice (some ⟨g3, 0, none⟩) m3 m3] 56)) (some ⟨w12.heap.size, 0, none⟩) 1 1 [.bool true, .int .i64 f.rank, .int .i64 f.gaps, .slice (some ⟨g3, 0, none⟩) m3 m3] rfl (.inr ⟨_, rfl, cells_four w12 _ _ _ _ _⟩) (by simp [Value.oneCell']) (by omega) (by have := hB12'.size; simp; omega) 74
              have hB14 : Below W5.heap.size W5 w14 := (hB12.alloc hs12 _).grown hg5 (by simp; omega) (fun k e => by have := (ho4.lt k e).1; omega)
              have hs14 := hB14.size
              have hB14' : Below w10.heap.size w10 w14 := (hB12'.alloc hB12'.size _).grown hg5 (by have := hB12'.size; simp; omega) (fun k e => (ho4.lt k e).1)
              obtain ⟨v15, w15, hr6, ho6, hg6'⟩ := app_prc ho5 none (0 - 0) 0 (prcs ((([] : List PrC).drop 0).take (0 - 0))) (by rw [prcs_len, List.length_take, List.length_drop]; omega) (.inl ⟨rfl, rfl, rfl⟩) (prcs_one _) (by omega) (by have := hB14'.size; omega) 74
              have hB15 : Below W5.heap.size W5 w15 := hB14.grown hg6' (by omega) (fun k e => by have := (ho5.lt k e).1; omega)
              have hB15' : Below w10.heap.size w10 w15 := hB14'.grown hg6' (by have := hB14'.size; omega) (fun k e => (ho5.lt k e).1)
              have HLL : Hid ((([] : List PrC).take 0 ++ N :: ([] : List PrC).drop 0).length = 0 + 0 + 1 + (0 - 0)) := Lib.hid (by rw [List.length_append, List.length_cons, List.length_take, List.length_drop]; omega)
              have HLP : Hid ((([] : List PrC).take 0 ++ N :: ([] : List PrC).drop 0).map PrC.p = (plcN ws opts (k + 1)).foldl insQ []) := Lib.hid (by rw [HLN.out]; unfold insQ; rw [HKA.out, List.map_append, List.map_cons, List.map_take, List.map_drop, HNP.out])
              have htd : (([] : List PrC).drop 0).take (0 - 0) = ([] : List PrC).drop 0 := List.take_of_length_le (by rw [List.length_drop]; omega)
              have HR1 := Lib.hid hr1
              have HR2 := Lib.hid hr2
              have HR3 := Lib.hid hr3
              have HR4 := Lib.hid hr4
              have HR5 := Lib.hid hr5
              have HR6 := Lib.hid hr6
              have HO9 : Hid (w15.ownsRow w1.heap.size 3 1 v10 (([] : List PrC).take 0 ++ N :: ([] : List PrC).drop 0).length (ints (idc (([] : List PrC).take 0 ++ N :: ([] : List PrC).drop 0)))) := Lib.hid (by
                have h := World.ownsRow.mono (row_kept ho3 (fun j hj => hB15'.block j (ho3.lt j hj).2)) (show w1.heap.size ≤ W5.heap.size from Nat.le_trans HB4.out.size HBX.out.size)
                rw [HLL.out]
                rw [htd, List.drop_zero, List.nil_append] at h
                have e : ints (idc (([] : List PrC).take 0 ++ N :: ([] : List PrC).drop 0)) = ints (idc (([] : List PrC).take 0)) ++ [.int .i64 (k : Int)] ++ ints (idc (([] : List PrC).drop 0)) := by
                  rw [show ([] : List PrC).take 0 ++ N :: ([] : List PrC).drop 0 = ([] : List PrC).take 0 ++ ([N] ++ ([] : List PrC).drop 0) from rfl, idc_app, idc_app, ints_app, ints_app, HNC.out.2, List.append_assoc]
                rw [e]
                exact h)
              have HP9 : Hid (w15.ownsRow w1.heap.size 56 4 v15 (([] : List PrC).take 0 ++ N :: ([] : List PrC).drop 0).length (prcs (([] : List PrC).take 0 ++ N :: ([] : List PrC).drop 0))) := Lib.hid (by
                have h := World.ownsRow.mono ho6 (show w1.heap.size ≤ w10.heap.size from Nat.le_trans (Nat.le_trans HB4.out.size HBX.out.size) hs10)
                rw [HLL.out]
                rw [htd, List.drop_zero, List.nil_append] at h
                have e : prcs (([] : List PrC).take 0 ++ N :: ([] : List PrC).drop 0) = prcs (([] : List PrC).take 0) ++ [.bool true, .int .i64 f.rank, .int .i64 f.gaps, .slice (some ⟨g3, 0, none⟩) m3 m3] ++ prcs (([] : List PrC).drop 0) := by
                  rw [show ([] : List PrC).take 0 ++ N :: ([] : List PrC).drop 0 = ([] : List PrC).take 0 ++ ([N] ++ ([] : List PrC).drop 0) from rfl, prcs_app, prcs_app, HNC.out.1, List.append_assoc]
                rw [e]
                exact h)
              obtain ⟨x10, c10, rfl⟩ := ownsRow_is ho3
              obtain ⟨x15, c15, rfl⟩ := ownsRow_is ho6
              have HB9 := Lib.hid ((HB4.out.trans (below_le HBX.out HB4.out.size)).trans (below_le hB15 (Nat.le_trans HB4.out.size HBX.out.size)))
              have HNE : Hid (([] : List PrC).take 0 ++ N :: ([] : List PrC).drop 0 ≠ []) := Lib.hid (by simp)
              obtain ⟨q0, q1, q2, q3⟩ := ((HC4.out.below HBX.out).below hB12).cells
              generalize ([] : List PrC).take 0 ++ N :: ([] : List PrC).drop 0 = L2 at HLL HLP HO9 HP9 HNE
              have hL2 : L2.length ≤ k + 1 := by have := HLL.out; omega
              clear hr1 hr2 hr3 hr4 hr5 hr6 ho1 ho2 ho3 ho4 ho5 ho6 hg1 hg2 hg3' hg4 hg5 hg6' hB7 hB9 hB10 hB12 hB12' hB14 hB14' hB15 hB15' e1 e2 htd hs7 hs9 hs10 hs12 hs14
              go_wp2_with (first | (at_builtin; refine wpList_appG _ rfl _ _ rfl rfl _ _ _ _ rfl rfl HR1.out ?_; clear HR1) | (at_builtin; refine wpList_appG _ rfl _ _ rfl rfl _ _ _ _ rfl rfl HR2.out ?_; clear HR2) | (at_builtin; refine wpList_appG _ rfl _ _ rfl rfl _ _ _ _ rfl rfl HR3.out ?_; clear HR3) | (at_builtin; refine wpList_appG _ rfl _ _ rfl rfl _ _ _ _ rfl rfl HR4.out ?_; clear HR4) | (at_builtin; refine wpList_appG _ rfl _ _ rfl rfl _ _ _ _ rfl rfl HR5.out ?_; clear HR5) | (at_builtin; refine wpList_appG _ rfl _ _ rfl rfl _ _ _ _ rfl rfl HR6.out ?_; clear HR6))
              go_roundw
              case rel => exact ⟨k + 1, L2, x10, c10, x15, c15, by go_num, (by rw [HLL.out]; try (first | rfl | (congr 1; omega))), (by rw [HLL.out]; try (first | rfl | (congr 1; omega))), by omega, hL2, fun h => absurd h HNE.out, HLP, HO9 |> (fun h => Lib.hid (by have := h.out; rw [← HLL.out] at this; exact this)), HP9 |> (fun h => Lib.hid (by have := h.out; rw [← HLL.out] at this; exact this)), HB9⟩
              case measure => simp [intOf]; omega
            · obtain ⟨g6, rfl, _, hg6, hc6, hsrc6⟩ := idc_at HO5.out hne
              obtain ⟨gy, hye, _, hgy, hd6, hsrcy, _⟩ := prcs_at HP5.out hne
              subst hye
              have b6 : Below W5.heap.size W5 (W5.alloc (.cells #[] 3)) := (Below.refl _ _).alloc (Nat.le_refl _) _
              by_cases hcJ : c = 0
              · have hc1 := hcJ
                by_cases hdJ : d = 0
                · have hd1 := hdJ
                  have e1 := empty_row W5 3 1
                  obtain ⟨v7, w7, hr1, ho1, hg1⟩ := app_int e1 (some ⟨g6, 0, none⟩) 0 c (ints (idc ((L.drop 0).take 0))) (by rw [ints_len, idc_len, List.length_take, List.drop_zero]; omega) (.inr ⟨_, rfl, hsrc6 _ b6 0 0 (by omega)⟩) (ints_one _) (by omega) (by simp) 30
                  have hB7 : Below W5.heap.size W5 w7 := ((Below.refl W5.heap.size W5).alloc (Nat.le_refl _) _).grown hg1 (by simp) (fun k e => (e1.lt k e).1)
                  have hs7 := hB7.size
                  obtain ⟨v9, w9, hr2, ho2, hg2⟩ := app_int (ho1.alloc (.cells #[.int .i64 (k : Int)] 3)) (some ⟨w7.heap.size, 0, none⟩) 1 1 [.int .i64 (k : Int)] rfl (.inr ⟨_, rfl, cell_one_new _ _ _⟩) (by simp [Value.oneCell']) (by omega) (by simp; omega) 30
                  have hB9 : Below W5.heap.size W5 w9 := (hB7.alloc hs7 _).grown hg2 (by simp; omega) (fun k e => (ho1.lt k e).1)
                  have hs9 := hB9.size
                  obtain ⟨v10, w10, hr3, ho3, hg3'⟩ := app_int ho2 (some ⟨g6, 0, none⟩) (L.length - 0) 0 (ints (idc ((L.drop 0).take (L.length - 0)))) (by rw [ints_len, idc_len, List.length_take, List.length_drop]; omega) (.inr ⟨_, rfl, fun j u hu => by rw [show L.length - 0 = 0 by omega, List.take_zero] at hu; cases hu⟩) (ints_one _) (by omega) (by omega) 30
                  have hB10 : Below W5.heap.size W5 w10 := hB9.grown hg3' (by omega) (fun k e => (ho2.lt k e).1)
                  have hs10 := hB10.size
                  have e2 := empty_row w10 56 4
                  obtain ⟨v12, w12, hr4, ho4, hg4⟩ := app_prc e2 (some ⟨gy, 0, none⟩) 0 d (prcs ((L.drop 0).take 0)) (by rw [prcs_len, List.length_take, List.drop_zero]; omega) (.inr ⟨_, rfl, by simpa using hsrcy _ (hB10.alloc hs10 (.cells #[] 56)) 0 0 (by omega)⟩) (prcs_one _) (by omega) (by simp) 74
                  have hB12 : Below W5.heap.size W5 w12 := (hB10.alloc hs10 _).grown hg4 (by simp; omega) (fun k e => by have := (e2.lt k e).1; omega)
                  have hs12 := hB12.size
                  have hB12' : Below w10.heap.size w10 w12 := ((Below.refl w10.heap.size w10).alloc (Nat.le_refl _) _).grown hg4 (by simp) (fun k e => (e2.lt k e).1)
                  obtain ⟨v14, w14, hr5, ho5, hg5⟩ := app_prc (ho4.alloc (.cells #[.bool true, .int .i64 f.rank, .int .i64 f.gaps, .slice (some ⟨g3, 0, none⟩) m3 m3] 56)) (some ⟨w12.heap.size, 0, none⟩) 1 1 [.bool true, .int .i64 f.rank, .int .i64 f.gaps, .slice (some ⟨g3, 0, none⟩) m3 m3] rfl (.inr ⟨_, rfl, cells_four w12 _ _ _ _ _⟩) (by simp [Value.oneCell']) (by omega) (by have := hB12'.size; simp; omega) 74
                  have hB14 : Below W5.heap.size W5 w14 := (hB12.alloc hs12 _).grown hg5 (by simp; omega) (fun k e => by have := (ho4.lt k e).1; omega)
                  have hs14 := hB14.size
                  have hB14' : Below w10.heap.size w10 w14 := (hB12'.alloc hB12'.size _).grown hg5 (by have := hB12'.size; simp; omega) (fun k e => (ho4.lt k e).1)
                  obtain ⟨v15, w15, hr6, ho6, hg6'⟩ := app_prc ho5 (some ⟨gy, 0, none⟩) (L.length - 0) 0 (prcs ((L.drop 0).take (L.length - 0))) (by rw [prcs_len, List.length_take, List.length_drop]; omega) (.inr ⟨_, rfl, fun j u hu => by rw [show L.length - 0 = 0 by omega, List.take_zero] at hu; cases hu⟩) (prcs_one _) (by omega) (by have := hB14'.size; omega) 74
                  have hB15 : Below W5.heap.size W5 w15 := hB14.grown hg6' (by omega) (fun k e => by have := (ho5.lt k e).1; omega)
                  have hB15' : Below w10.heap.size w10 w15 := hB14'.grown hg6' (by have := hB14'.size; omega) (fun k e => (ho5.lt k e).1)
                  have HLL : Hid ((L.take 0 ++ N :: L.drop 0).length = 0 + 0 + 1 + (L.length - 0)) := Lib.hid (by rw [List.length_append, List.length_cons, List.length_take, List.length_drop]; omega)
                  have HLP : Hid ((L.take 0 ++ N :: L.drop 0).map PrC.p = (plcN ws opts (k + 1)).foldl insQ []) := Lib.hid (by rw [HLN.out]; unfold insQ; rw [HKA.out, List.map_append, List.map_cons, List.map_take, List.map_drop, HNP.out])
                  have htd : (L.drop 0).take (L.length - 0) = L.drop 0 := List.take_of_length_le (by rw [List.length_drop]; omega)
                  have HR1 := Lib.hid hr1
                  have HR2 := Lib.hid hr2
                  have HR3 := Lib.hid hr3
                  have HR4 := Lib.hid hr4
                  have HR5 := Lib.hid hr5
                  have HR6 := Lib.hid hr6
                  have HO9 : Hid (w15.ownsRow w1.heap.size 3 1 v10 (L.take 0 ++ N :: L.drop 0).length (ints (idc (L.take 0 ++ N :: L.drop 0)))) := Lib.hid (by
                    have h := World.ownsRow.mono (row_kept ho3 (fun j hj => hB15'.block j (ho3.lt j hj).2)) (show w1.heap.size ≤ W5.heap.size from Nat.le_trans HB4.out.size HBX.out.size)
                    rw [HLL.out]
                    rw [htd, List.drop_zero, List.nil_append] at h
                    have e : ints (idc (L.take 0 ++ N :: L.drop 0)) = ints (idc (L.take 0)) ++ [.int .i64 (k : Int)] ++ ints (idc (L.drop 0)) := by
                      rw [show L.take 0 ++ N :: L.drop 0 = L.take 0 ++ ([N] ++ L.drop 0) from rfl, idc_app, idc_app, ints_app, ints_app, HNC.out.2, List.append_assoc]
                    rw [e]
                    exact h)
                  have HP9 : Hid (w15.ownsRow w1.heap.size 56 4 v15 (L.take 0 ++ N :: L.drop 0).length (prcs (L.take 0 ++ N :: L.drop 0))) := Lib.hid (by
                    have h := World.ownsRow.mono ho6 (show w1.heap.size ≤ w10.heap.size from Nat.le_trans (Nat.le_trans HB4.out.size HBX.out.size) hs10)
                    rw [HLL.out]
                    rw [htd, List.drop_zero, List.nil_append] at h
                    have e : prcs (L.take 0 ++ N :: L.drop 0) = prcs (L.take 0) ++ [.bool true, .int .i64 f.rank, .int .i64 f.gaps, .slice (some ⟨g3, 0, none⟩) m3 m3] ++ prcs (L.drop 0) := by
                      rw [show L.take 0 ++ N :: L.drop 0 = L.take 0 ++ ([N] ++ L.drop 0) from rfl, prcs_app, prcs_app, HNC.out.1, List.append_assoc]
                    rw [e]
                    exact h)
                  obtain ⟨x10, c10, rfl⟩ := ownsRow_is ho3
                  obtain ⟨x15, c15, rfl⟩ := ownsRow_is ho6
                  have HB9 := Lib.hid ((HB4.out.trans (below_le HBX.out HB4.out.size)).trans (below_le hB15 (Nat.le_trans HB4.out.size HBX.out.size)))
                  have HNE : Hid (L.take 0 ++ N :: L.drop 0 ≠ []) := Lib.hid (by simp)
                  obtain ⟨q0, q1, q2, q3⟩ := ((HC4.out.below HBX.out).below hB12).cells
                  generalize L.take 0 ++ N :: L.drop 0 = L2 at HLL HLP HO9 HP9 HNE
                  have hL2 : L2.length ≤ k + 1 := by have := HLL.out; omega
                  clear hr1 hr2 hr3 hr4 hr5 hr6 ho1 ho2 ho3 ho4 ho5 ho6 hg1 hg2 hg3' hg4 hg5 hg6' hB7 hB9 hB10 hB12 hB12' hB14 hB14' hB15 hB15' e1 e2 htd hs7 hs9 hs10 hs12 hs14
                  go_wp2_with (first | (at_builtin; refine wpList_appG _ rfl _ _ rfl rfl _ _ _ _ rfl rfl HR1.out ?_; clear HR1) | (at_builtin; refine wpList_appG _ rfl _ _ rfl rfl _ _ _ _ rfl rfl HR2.out ?_; clear HR2) | (at_builtin; refine wpList_appG _ rfl _ _ rfl rfl _ _ _ _ rfl rfl HR3.out ?_; clear HR3) | (at_builtin; refine wpList_appG _ rfl _ _ rfl rfl _ _ _ _ rfl rfl HR4.out ?_; clear HR4) | (at_builtin; refine wpList_appG _ rfl _ _ rfl rfl _ _ _ _ rfl rfl HR5.out ?_; clear HR5) | (at_builtin; refine wpList_appG _ rfl _ _ rfl rfl _ _ _ _ rfl rfl HR6.out ?_; clear HR6))
                  go_roundw
                  case rel => exact ⟨k + 1, L2, x10, c10, x15, c15, by go_num, (by rw [HLL.out]; try (first | rfl | (congr 1; omega))), (by rw [HLL.out]; try (first | rfl | (congr 1; omega))), by omega, hL2, fun h => absurd h HNE.out, HLP, HO9 |> (fun h => Lib.hid (by have := h.out; rw [← HLL.out] at this; exact this)), HP9 |> (fun h => Lib.hid (by have := h.out; rw [← HLL.out] at this; exact this)), HB9⟩
                  case measure => simp [intOf]; omega
                · have hd1 := hdJ
                  have e1 := empty_row W5 3 1
                  obtain ⟨v7, w7, hr1, ho1, hg1⟩ := app_int e1 (some ⟨g6, 0, none⟩) 0 c (ints (idc ((L.drop 0).take 0))) (by rw [ints_len, idc_len, List.length_take, List.drop_zero]; omega) (.inr ⟨_, rfl, hsrc6 _ b6 0 0 (by omega)⟩) (ints_one _) (by omega) (by simp) 30
                  have hB7 : Below W5.heap.size W5 w7 := ((Below.refl W5.heap.size W5).alloc (Nat.le_refl _) _).grown hg1 (by simp) (fun k e => (e1.lt k e).1)
                  have hs7 := hB7.size
                  obtain ⟨v9, w9, hr2, ho2, hg2⟩ := app_int (ho1.alloc (.cells #[.int .i64 (k : Int)] 3)) (some ⟨w7.heap.size, 0, none⟩) 1 1 [.int .i64 (k : Int)] rfl (.inr ⟨_, rfl, cell_one_new _ _ _⟩) (by simp [Value.oneCell']) (by omega) (by simp; omega) 30
                  have hB9 : Below W5.heap.size W5 w9 := (hB7.alloc hs7 _).grown hg2 (by simp; omega) (fun k e => (ho1.lt k e).1)
                  have hs9 := hB9.size
                  obtain ⟨v10, w10, hr3, ho3, hg3'⟩ := app_int ho2 (some ⟨g6, 0, none⟩) (L.length - 0) 0 (ints (idc ((L.drop 0).take (L.length - 0)))) (by rw [ints_len, idc_len, List.length_take, List.length_drop]; omega) (.inr ⟨_, rfl, fun j u hu => by rw [show L.length - 0 = 0 by omega, List.take_zero] at hu; cases hu⟩) (ints_one _) (by omega) (by omega) 30
                  have hB10 : Below W5.heap.size W5 w10 := hB9.grown hg3' (by omega) (fun k e => (ho2.lt k e).1)
                  have hs10 := hB10.size
                  have e2 := empty_row w10 56 4
                  obtain ⟨v12, w12, hr4, ho4, hg4⟩ := app_prc e2 (some ⟨gy, 0, none⟩) 0 d (prcs ((L.drop 0).take 0)) (by rw [prcs_len, List.length_take, List.drop_zero]; omega) (.inr ⟨_, rfl, by simpa using hsrcy _ (hB10.alloc hs10 (.cells #[] 56)) 0 0 (by omega)⟩) (prcs_one _) (by omega) (by simp) 74
                  have hB12 : Below W5.heap.size W5 w12 := (hB10.alloc hs10 _).grown hg4 (by simp; omega) (fun k e => by have := (e2.lt k e).1; omega)
                  have hs12 := hB12.size
                  have hB12' : Below w10.heap.size w10 w12 := ((Below.refl w10.heap.size w10).alloc (Nat.le_refl _) _).grown hg4 (by simp) (fun k e => (e2.lt k e).1)
                  obtain ⟨v14, w14, hr5, ho5, hg5⟩ := app_prc (ho4.alloc (.cells #[.bool true, .int .i64 f.rank, .int .i64 f.gaps, .slice (some ⟨g3, 0, none⟩) m3 m3] 56)) (some ⟨w12.heap.size, 0, none⟩) 1 1 [.bool true, .int .i64 f.rank, .int .i64 f.gaps, .slice (some ⟨g3, 0, none⟩) m3 m3] rfl (.inr ⟨_, rfl, cells_four w12 _ _ _ _ _⟩) (by simp [Value.oneCell']) (by omega) (by have := hB12'.size; simp; omega) 74
                  have hB14 : Below W5.heap.size W5 w14 := (hB12.alloc hs12 _).grown hg5 (by simp; omega) (fun k e => by have := (ho4.lt k e).1; omega)
                  have hs14 := hB14.size
                  have hB14' : Below w10.heap.size w10 w14 := (hB12'.alloc hB12'.size _).grown hg5 (by have := hB12'.size; simp; omega) (fun k e => (ho4.lt k e).1)
                  obtain ⟨v15, w15, hr6, ho6, hg6'⟩ := app_prc ho5 (some ⟨gy, 0, none⟩) (L.length - 0) (d - 0) (prcs ((L.drop 0).take (L.length - 0))) (by rw [prcs_len, List.length_take, List.length_drop]; omega) (.inr ⟨_, rfl, (by simpa using hsrcy _ hB14 0 (L.length - 0) (by omega))⟩) (prcs_one _) (by omega) (by have := hB14'.size; omega) 74
                  have hB15 : Below W5.heap.size W5 w15 := hB14.grown hg6' (by omega) (fun k e => by have := (ho5.lt k e).1; omega)
                  have hB15' : Below w10.heap.size w10 w15 := hB14'.grown hg6' (by have := hB14'.size; omega) (fun k e => (ho5.lt k e).1)
                  have HLL : Hid ((L.take 0 ++ N :: L.drop 0).length = 0 + 0 + 1 + (L.length - 0)) := Lib.hid (by rw [List.length_append, List.length_cons, List.length_take, List.length_drop]; omega)
                  have HLP : Hid ((L.take 0 ++ N :: L.drop 0).map PrC.p = (plcN ws opts (k + 1)).foldl insQ []) := Lib.hid (by rw [HLN.out]; unfold insQ; rw [HKA.out, List.map_append, List.map_cons, List.map_take, List.map_drop, HNP.out])
                  have htd : (L.drop 0).take (L.length - 0) = L.drop 0 := List.take_of_length_le (by rw [List.length_drop]; omega)
                  have HR1 := Lib.hid hr1
                  have HR2 := Lib.hid hr2
                  have HR3 := Lib.hid hr3
                  have HR4 := Lib.hid hr4
                  have HR5 := Lib.hid hr5
                  have HR6 := Lib.hid hr6
                  have HO9 : Hid (w15.ownsRow w1.heap.size 3 1 v10 (L.take 0 ++ N :: L.drop 0).length (ints (idc (L.take 0 ++ N :: L.drop 0)))) := Lib.hid (by
                    have h := World.ownsRow.mono (row_kept ho3 (fun j hj => hB15'.block j (ho3.lt j hj).2)) (show w1.heap.size ≤ W5.heap.size from Nat.le_trans HB4.out.size HBX.out.size)
                    rw [HLL.out]
                    rw [htd, List.drop_zero, List.nil_append] at h
                    have e : ints (idc (L.take 0 ++ N :: L.drop 0)) = ints (idc (L.take 0)) ++ [.int .i64 (k : Int)] ++ ints (idc (L.drop 0)) := by
                      rw [show L.take 0 ++ N :: L.drop 0 = L.take 0 ++ ([N] ++ L.drop 0) from rfl, idc_app, idc_app, ints_app, ints_app, HNC.out.2, List.append_assoc]
                    rw [e]
                    exact h)
                  have HP9 : Hid (w15.ownsRow w1.heap.size 56 4 v15 (L.take 0 ++ N :: L.drop 0).length (prcs (L.take 0 ++ N :: L.drop 0))) := Lib.hid (by
                    have h := World.ownsRow.mono ho6 (show w1.heap.size ≤ w10.heap.size from Nat.le_trans (Nat.le_trans HB4.out.size HBX.out.size) hs10)
                    rw [HLL.out]
                    rw [htd, List.drop_zero, List.nil_append] at h
                    have e : prcs (L.take 0 ++ N :: L.drop 0) = prcs (L.take 0) ++ [.bool true, .int .i64 f.rank, .int .i64 f.gaps, .slice (some ⟨g3, 0, none⟩) m3 m3] ++ prcs (L.drop 0) := by
                      rw [show L.take 0 ++ N :: L.drop 0 = L.take 0 ++ ([N] ++ L.drop 0) from rfl, prcs_app, prcs_app, HNC.out.1, List.append_assoc]
                    rw [e]
                    exact h)
                  obtain ⟨x10, c10, rfl⟩ := ownsRow_is ho3
                  obtain ⟨x15, c15, rfl⟩ := ownsRow_is ho6
                  have HB9 := Lib.hid ((HB4.out.trans (below_le HBX.out HB4.out.size)).trans (below_le hB15 (Nat.le_trans HB4.out.size HBX.out.size)))
                  have HNE : Hid (L.take 0 ++ N :: L.drop 0 ≠ []) := Lib.hid (by simp)
                  obtain ⟨q0, q1, q2, q3⟩ := ((HC4.out.below HBX.out).below hB12).cells
                  generalize L.take 0 ++ N :: L.drop 0 = L2 at HLL HLP HO9 HP9 HNE
                  have hL2 : L2.length ≤ k + 1 := by have := HLL.out; omega
                  clear hr1 hr2 hr3 hr4 hr5 hr6 ho1 ho2 ho3 ho4 ho5 ho6 hg1 hg2 hg3' hg4 hg5 hg6' hB7 hB9 hB10 hB12 hB12' hB14 hB14' hB15 hB15' e1 e2 htd hs7 hs9 hs10 hs12 hs14
                  go_wp2_with (first | (at_builtin; refine wpList_appG _ rfl _ _ rfl rfl _ _ _ _ rfl rfl HR1.out ?_; clear HR1) | (at_builtin; refine wpList_appG _ rfl _ _ rfl rfl _ _ _ _ rfl rfl HR2.out ?_; clear HR2) | (at_builtin; refine wpList_appG _ rfl _ _ rfl rfl _ _ _ _ rfl rfl HR3.out ?_; clear HR3) | (at_builtin; refine wpList_appG _ rfl _ _ rfl rfl _ _ _ _ rfl rfl HR4.out ?_; clear HR4) | (at_builtin; refine wpList_appG _ rfl _ _ rfl rfl _ _ _ _ rfl rfl HR5.out ?_; clear HR5) | (at_builtin; refine wpList_appG _ rfl _ _ rfl rfl _ _ _ _ rfl rfl HR6.out ?_; clear HR6))
                  go_roundw
                  case rel => exact ⟨k + 1, L2, x10, c10, x15, c15, by go_num, (by rw [HLL.out]; try (first | rfl | (congr 1; omega))), (by rw [HLL.out]; try (first | rfl | (congr 1; omega))), by omega, hL2, fun h => absurd h HNE.out, HLP, HO9 |> (fun h => Lib.hid (by have := h.out; rw [← HLL.out] at this; exact this)), HP9 |> (fun h => Lib.hid (by have := h.out; rw [← HLL.out] at this; exact this)), HB9⟩
                  case measure => simp [intOf]; omega
              · have hc1 := hcJ
                by_cases hdJ : d = 0
                · have hd1 := hdJ
                  have e1 := empty_row W5 3 1
                  obtain ⟨v7, w7, hr1, ho1, hg1⟩ := app_int e1 (some ⟨g6, 0, none⟩) 0 c (ints (idc ((L.drop 0).take 0))) (by rw [ints_len, idc_len, List.length_take, List.drop_zero]; omega) (.inr ⟨_, rfl, hsrc6 _ b6 0 0 (by omega)⟩) (ints_one _) (by omega) (by simp) 30
                  have hB7 : Below W5.heap.size W5 w7 := ((Below.refl W5.heap.size W5).alloc (Nat.le_refl _) _).grown hg1 (by simp) (fun k e => (e1.lt k e).1)
                  have hs7 := hB7.size
                  obtain ⟨v9, w9, hr2, ho2, hg2⟩ := app_int (ho1.alloc (.cells #[.int .i64 (k : Int)] 3)) (some ⟨w7.heap.size, 0, none⟩) 1 1 [.int .i64 (k : Int)] rfl (.inr ⟨_, rfl, cell_one_new _ _ _⟩) (by simp [Value.oneCell']) (by omega) (by simp; omega) 30
                  have hB9 : Below W5.heap.size W5 w9 := (hB7.alloc hs7 _).grown hg2 (by simp; omega) (fun k e => (ho1.lt k e).1)
                  have hs9 := hB9.size
                  obtain ⟨v10, w10, hr3, ho3, hg3'⟩ := app_int ho2 (some ⟨g6, 0, none⟩) (L.length - 0) (c - 0) (ints (idc ((L.drop 0).take (L.length - 0)))) (by rw [ints_len, idc_len, List.length_take, List.length_drop]; omega) (.inr ⟨_, rfl, hsrc6 _ hB9 0 (L.length - 0) (by omega)⟩) (ints_one _) (by omega) (by omega) 30
                  have hB10 : Below W5.heap.size W5 w10 := hB9.grown hg3' (by omega) (fun k e => (ho2.lt k e).1)
                  have hs10 := hB10.size
                  have e2 := empty_row w10 56 4
                  obtain ⟨v12, w12, hr4, ho4, hg4⟩ := app_prc e2 (some ⟨gy, 0, none⟩) 0 d (prcs ((L.drop 0).take 0)) (by rw [prcs_len, List.length_take, List.drop_zero]; omega) (.inr ⟨_, rfl, by simpa using hsrcy _ (hB10.alloc hs10 (.cells #[] 56)) 0 0 (by omega)⟩) (prcs_one _) (by omega) (by simp) 74
                  have hB12 : Below W5.heap.size W5 w12 := (hB10.alloc hs10 _).grown hg4 (by simp; omega) (fun k e => by have := (e2.lt k e).1; omega)
                  have hs12 := hB12.size
                  have hB12' : Below w10.heap.size w10 w12 := ((Below.refl w10.heap.size w10).alloc (Nat.le_refl _) _).grown hg4 (by simp) (fun k e => (e2.lt k e).1)
                  obtain ⟨v14, w14, hr5, ho5, hg5⟩ := app_prc (ho4.alloc (.cells #[.bool true, .int .i64 f.rank, .int .i64 f.gaps, .slice (some ⟨g3, 0, none⟩) m3 m3] 56)) (some ⟨w12.heap.size, 0, none⟩) 1 1 [.bool true, .int .i64 f.rank, .int .i64 f.gaps, .slice (some ⟨g3, 0, none⟩) m3 m3] rfl (.inr ⟨_, rfl, cells_four w12 _ _ _ _ _⟩) (by simp [Value.oneCell']) (by omega) (by have := hB12'.size; simp; omega) 74
                  have hB14 : Below W5.heap.size W5 w14 := (hB12.alloc hs12 _).grown hg5 (by simp; omega) (fun k e => by have := (ho4.lt k e).1; omega)
                  have hs14 := hB14.size
                  have hB14' : Below w10.heap.size w10 w14 := (hB12'.alloc hB12'.size _).grown hg5 (by have := hB12'.size; simp; omega) (fun k e => (ho4.lt k e).1)
                  obtain ⟨v15, w15, hr6, ho6, hg6'⟩ := app_prc ho5 (some ⟨gy, 0, none⟩) (L.length - 0) 0 (prcs ((L.drop 0).take (L.length - 0))) (by rw [prcs_len, List.length_take, List.length_drop]; omega) (.inr ⟨_, rfl, fun j u hu => by rw [show L.length - 0 = 0 by omega, List.take_zero] at hu; cases hu⟩) (prcs_one _) (by omega) (by have := hB14'.size; omega) 74
                  have hB15 : Below W5.heap.size W5 w15 := hB14.grown hg6' (by omega) (fun k e => by have := (ho5.lt k e).1; omega)
                  have hB15' : Below w10.heap.size w10 w15 := hB14'.grown hg6' (by have := hB14'.size; omega) (fun k e => (ho5.lt k e).1)
                  have HLL : Hid ((L.take 0 ++ N :: L.drop 0).length = 0 + 0 + 1 + (L.length - 0)) := Lib.hid (by rw [List.length_append, List.length_cons, List.length_take, List.length_drop]; omega)
                  have HLP : Hid ((L.take 0 ++ N :: L.drop 0).map PrC.p = (plcN ws opts (k + 1)).foldl insQ []) := Lib.hid (by rw [HLN.out]; unfold insQ; rw [HKA.out, List.map_append, List.map_cons, List.map_take, List.map_drop, HNP.out])
                  have htd : (L.drop 0).take (L.length - 0) = L.drop 0 := List.take_of_length_le (by rw [List.length_drop]; omega)
                  have HR1 := Lib.hid hr1
                  have HR2 := Lib.hid hr2
                  have HR3 := Lib.hid hr3
                  have HR4 := Lib.hid hr4
                  have HR5 := Lib.hid hr5
                  have HR6 := Lib.hid hr6
                  have HO9 : Hid (w15.ownsRow w1.heap.size 3 1 v10 (L.take 0 ++ N :: L.drop 0).length (ints (idc (L.take 0 ++ N :: L.drop 0)))) := Lib.hid (by
                    have h := World.ownsRow.mono (row_kept ho3 (fun j hj => hB15'.block j (ho3.lt j hj).2)) (show w1.heap.size ≤ W5.heap.size from Nat.le_trans HB4.out.size HBX.out.size)
                    rw [HLL.out]
                    rw [htd, List.drop_zero, List.nil_append] at h
                    have e : ints (idc (L.take 0 ++ N :: L.drop 0)) = ints (idc (L.take 0)) ++ [.int .i64 (k : Int)] ++ ints (idc (L.drop 0)) := by
                      rw [show L.take 0 ++ N :: L.drop 0 = L.take 0 ++ ([N] ++ L.drop 0) from rfl, idc_app, idc_app, ints_app, ints_app, HNC.out.2, List.append_assoc]
                    rw [e]
                    exact h)
                  have HP9 : Hid (w15.ownsRow w1.heap.size 56 4 v15 (L.take 0 ++ N :: L.drop 0).length (prcs (L.take 0 ++ N :: L.drop 0))) := Lib.hid (by
                    have h := World.ownsRow.mono ho6 (show w1.heap.size ≤ w10.heap.size from Nat.le_trans (Nat.le_trans HB4.out.size HBX.out.size) hs10)
                    rw [HLL.out]
                    rw [htd, List.drop_zero, List.nil_append] at h
                    have e : prcs (L.take 0 ++ N :: L.drop 0) = prcs (L.take 0) ++ [.bool true, .int .i64 f.rank, .int .i64 f.gaps, .slice (some ⟨g3, 0, none⟩) m3 m3] ++ prcs (L.drop 0) := by
                      rw [show L.take 0 ++ N :: L.drop 0 = L.take 0 ++ ([N] ++ L.drop 0) from rfl, prcs_app, prcs_app, HNC.out.1, List.append_assoc]
                    rw [e]
                    exact h)
                  obtain ⟨x10, c10, rfl⟩ := ownsRow_is ho3
                  obtain ⟨x15, c15, rfl⟩ := ownsRow_is ho6
                  have HB9 := Lib.hid ((HB4.out.trans (below_le HBX.out HB4.out.size)).trans (below_le hB15 (Nat.le_trans HB4.out.size HBX.out.size)))
                  have HNE : Hid (L.take 0 ++ N :: L.drop 0 ≠ []) := Lib.hid (by simp)
                  obtain ⟨q0, q1, q2, q3⟩ := ((HC4.out.below HBX.out).below hB12).cells
                  generalize L.take 0 ++ N :: L.drop 0 = L2 at HLL HLP HO9 HP9 HNE
                  have hL2 : L2.length ≤ k + 1 := by have := HLL.out; omega
                  clear hr1 hr2 hr3 hr4 hr5 hr6 ho1 ho2 ho3 ho4 ho5 ho6 hg1 hg2 hg3' hg4 hg5 hg6' hB7 hB9 hB10 hB12 hB12' hB14 hB14' hB15 hB15' e1 e2 htd hs7 hs9 hs10 hs12 hs14
                  go_wp2_with (first | (at_builtin; refine wpList_appG _ rfl _ _ rfl rfl _ _ _ _ rfl rfl HR1.out ?_; clear HR1) | (at_builtin; refine wpList_appG _ rfl _ _ rfl rfl _ _ _ _ rfl rfl HR2.out ?_; clear HR2) | (at_builtin; refine wpList_appG _ rfl _ _ rfl rfl _ _ _ _ rfl rfl HR3.out ?_; clear HR3) | (at_builtin; refine wpList_appG _ rfl _ _ rfl rfl _ _ _ _ rfl rfl HR4.out ?_; clear HR4) | (at_builtin; refine wpList_appG _ rfl _ _ rfl rfl _ _ _ _ rfl rfl HR5.out ?_; clear HR5) | (at_builtin; refine wpList_appG _ rfl _ _ rfl rfl _ _ _ _ rfl rfl HR6.out ?_; clear HR6))
                  go_roundw
                  case rel => exact ⟨k + 1, L2, x10, c10, x15, c15, by go_num, (by rw [HLL.out]; try (first | rfl | (congr 1; omega))), (by rw [HLL.out]; try (first | rfl | (congr 1; omega))), by omega, hL2, fun h => absurd h HNE.out, HLP, HO9 |> (fun h => Lib.hid (by have := h.out; rw [← HLL.out] at this; exact this)), HP9 |> (fun h => Lib.hid (by have := h.out; rw [← HLL.out] at this; exact this)), HB9⟩
                  case measure => simp [intOf]; omega
                · have hd1 := hdJ
                  have e1 := empty_row W5 3 1
                  obtain ⟨v7, w7, hr1, ho1, hg1⟩ := app_int e1 (some ⟨g6, 0, none⟩) 0 c (ints (idc ((L.drop 0).take 0))) (by rw [ints_len, idc_len, List.length_take, List.drop_zero]; omega) (.inr ⟨_, rfl, hsrc6 _ b6 0 0 (by omega)⟩) (ints_one _) (by omega) (by simp) 30
                  have hB7 : Below W5.heap.size W5 w7 := ((Below.refl W5.heap.size W5).alloc (Nat.le_refl _) _).grown hg1 (by simp) (fun k e => (e1.lt k e).1)
                  have hs7 := hB7.size
                  obtain ⟨v9, w9, hr2, ho2, hg2⟩ := app_int (ho1.alloc (.cells #[.int .i64 (k : Int)] 3)) (some ⟨w7.heap.size, 0, none⟩) 1 1 [.int .i64 (k : Int)] rfl (.inr ⟨_, rfl, cell_one_new _ _ _⟩) (by simp [Value.oneCell']) (by omega) (by simp; omega) 30
                  have hB9 : Below W5.heap.size W5 w9 := (hB7.alloc hs7 _).grown hg2 (by simp; omega) (fun k e => (ho1.lt k e).1)
                  have hs9 := hB9.size
                  obtain ⟨v10, w10, hr3, ho3, hg3'⟩ := app_int ho2 (some ⟨g6, 0, none⟩) (L.length - 0) (c - 0) (ints (idc ((L.drop 0).take (L.length - 0)))) (by rw [ints_len, idc_len, List.length_take, List.length_drop]; omega) (.inr ⟨_, rfl, hsrc6 _ hB9 0 (L.length - 0) (by omega)⟩) (ints_one _) (by omega) (by omega) 30
                  have hB10 : Below W5.heap.size W5 w10 := hB9.grown hg3' (by omega) (fun k e => (ho2.lt k e).1)
                  have hs10 := hB10.size
                  have e2 := empty_row w10 56 4
                  obtain ⟨v12, w12, hr4, ho4, hg4⟩ := app_prc e2 (some ⟨gy, 0, none⟩) 0 d (prcs ((L.drop 0).take 0)) (by rw [prcs_len, List.length_take, List.drop_zero]; omega) (.inr ⟨_, rfl, by simpa using hsrcy _ (hB10.alloc hs10 (.cells #[] 56)) 0 0 (by omega)⟩) (prcs_one _) (by omega) (by simp) 74
                  have hB12 : Below W5.heap.size W5 w12 := (hB10.alloc hs10 _).grown hg4 (by simp; omega) (fun k e => by have := (e2.lt k e).1; omega)
                  have hs12 := hB12.size
                  have hB12' : Below w10.heap.size w10 w12 := ((Below.refl w10.heap.size w10).alloc (Nat.le_refl _) _).grown hg4 (by simp) (fun k e => (e2.lt k e).1)
                  obtain ⟨v14, w14, hr5, ho5, hg5⟩ := app_prc (ho4.alloc (.cells #[.bool true, .int .i64 f.rank, .int .i64 f.gaps, .slice (some ⟨g3, 0, none⟩) m3 m3] 56)) (some ⟨w12.heap.size, 0, none⟩) 1 1 [.bool true, .int .i64 f.rank, .int .i64 f.gaps, .slice (some ⟨g3, 0, none⟩) m3 m3] rfl (.inr ⟨_, rfl, cells_four w12 _ _ _ _ _⟩) (by simp [Value.oneCell']) (by omega) (by have := hB12'.size; simp; omega) 74
                  have hB14 : Below W5.heap.size W5 w14 := (hB12.alloc hs12 _).grown hg5 (by simp; omega) (fun k e => by have := (ho4.lt k e).1; omega)
                  have hs14 := hB14.size
                  have hB14' : Below w10.heap.size w10 w14 := (hB12'.alloc hB12'.size _).grown hg5 (by have := hB12'.size; simp; omega) (fun k e => (ho4.lt k e).1)
                  obtain ⟨v15, w15, hr6, ho6, hg6'⟩ := app_prc ho5 (some ⟨gy, 0, none⟩) (L.length - 0) (d - 0) (prcs ((L.drop 0).take (L.length - 0))) (by rw [prcs_len, List.length_take, List.length_drop]; omega) (.inr ⟨_, rfl, (by simpa using hsrcy _ hB14 0 (L.length - 0) (by omega))⟩) (prcs_one _) (by omega) (by have := hB14'.size; omega) 74
                  have hB15 : Below W5.heap.size W5 w15 := hB14.grown hg6' (by omega) (fun k e => by have := (ho5.lt k e).1; omega)
                  have hB15' : Below w10.heap.size w10 w15 := hB14'.grown hg6' (by have := hB14'.size; omega) (fun k e => (ho5.lt k e).1)
                  have HLL : Hid ((L.take 0 ++ N :: L.drop 0).length = 0 + 0 + 1 + (L.length - 0)) := Lib.hid (by rw [List.length_append, List.length_cons, List.length_take, List.length_drop]; omega)
                  have HLP : Hid ((L.take 0 ++ N :: L.drop 0).map PrC.p = (plcN ws opts (k + 1)).foldl insQ []) := Lib.hid (by rw [HLN.out]; unfold insQ; rw [HKA.out, List.map_append, List.map_cons, List.map_take, List.map_drop, HNP.out])
                  have htd : (L.drop 0).take (L.length - 0) = L.drop 0 := List.take_of_length_le (by rw [List.length_drop]; omega)
                  have HR1 := Lib.hid hr1
                  have HR2 := Lib.hid hr2
                  have HR3 := Lib.hid hr3
                  have HR4 := Lib.hid hr4
                  have HR5 := Lib.hid hr5
                  have HR6 := Lib.hid hr6
                  have HO9 : Hid (w15.ownsRow w1.heap.size 3 1 v10 (L.take 0 ++ N :: L.drop 0).length (ints (idc (L.take 0 ++ N :: L.drop 0)))) := Lib.hid (by
                    have h := World.ownsRow.mono (row_kept ho3 (fun j hj => hB15'.block j (ho3.lt j hj).2)) (show w1.heap.size ≤ W5.heap.size from Nat.le_trans HB4.out.size HBX.out.size)
                    rw [HLL.out]
                    rw [htd, List.drop_zero, List.nil_append] at h
                    have e : ints (idc (L.take 0 ++ N :: L.drop 0)) = ints (idc (L.take 0)) ++ [.int .i64 (k : Int)] ++ ints (idc (L.drop 0)) := by
                      rw [show L.take 0 ++ N :: L.drop 0 = L.take 0 ++ ([N] ++ L.drop 0) from rfl, idc_app, idc_app, ints_app, ints_app, HNC.out.2, List.append_assoc]
                    rw [e]
                    exact h)
                  have HP9 : Hid (w15.ownsRow w1.heap.size 56 4 v15 (L.take 0 ++ N :: L.drop 0).length (prcs (L.take 0 ++ N :: L.drop 0))) := Lib.hid (by
                    have h := World.ownsRow.mono ho6 (show w1.heap.size ≤ w10.heap.size from Nat.le_trans (Nat.le_trans HB4.out.size HBX.out.size) hs10)
                    rw [HLL.out]
                    rw [htd, List.drop_zero, List.nil_append] at h
                    have e : prcs (L.take 0 ++ N :: L.drop 0) = prcs (L.take 0) ++ [.bool true, .int .i64 f.rank, .int .i64 f.gaps, .slice (some ⟨g3, 0, none⟩) m3 m3] ++ prcs (L.drop 0) := by
                      rw [show L.take 0 ++ N :: L.drop 0 = L.take 0 ++ ([N] ++ L.drop 0) from rfl, prcs_app, prcs_app, HNC.out.1, List.append_assoc]
                    rw [e]
                    exact h)
                  obtain ⟨x10, c10, rfl⟩ := ownsRow_is ho3
                  obtain ⟨x15, c15, rfl⟩ := ownsRow_is ho6
                  have HB9 := Lib.hid ((HB4.out.trans (below_le HBX.out HB4.out.size)).trans (below_le hB15 (Nat.le_trans HB4.out.size HBX.out.size)))
                  have HNE : Hid (L.take 0 ++ N :: L.drop 0 ≠ []) := Lib.hid (by simp)
                  obtain ⟨q0, q1, q2, q3⟩ := ((HC4.out.below HBX.out).below hB12).cells
                  generalize L.take 0 ++ N :: L.drop 0 = L2 at HLL HLP HO9 HP9 HNE
                  have hL2 : L2.length ≤ k + 1 := by have := HLL.out; omega
                  clear hr1 hr2 hr3 hr4 hr5 hr6 ho1 ho2 ho3 ho4 ho5 ho6 hg1 hg2 hg3' hg4 hg5 hg6' hB7 hB9 hB10 hB12 hB12' hB14 hB14' hB15 hB15' e1 e2 htd hs7 hs9 hs10 hs12 hs14
                  go_wp2_with (first | (at_builtin; refine wpList_appG _ rfl _ _ rfl rfl _ _ _ _ rfl rfl HR1.out ?_; clear HR1) | (at_builtin; refine wpList_appG _ rfl _ _ rfl rfl _ _ _ _ rfl rfl HR2.out ?_; clear HR2) | (at_builtin; refine wpList_appG _ rfl _ _ rfl rfl _ _ _ _ rfl rfl HR3.out ?_; clear HR3) | (at_builtin; refine wpList_appG _ rfl _ _ rfl rfl _ _ _ _ rfl rfl HR4.out ?_; clear HR4) | (at_builtin; refine wpList_appG _ rfl _ _ rfl rfl _ _ _ _ rfl rfl HR5.out ?_; clear HR5) | (at_builtin; refine wpList_appG _ rfl _ _ rfl rfl _ _ _ _ rfl rfl HR6.out ?_; clear HR6))
                  go_roundw
                  case rel => exact ⟨k + 1, L2, x10, c10, x15, c15, by go_num, (by rw [HLL.out]; try (first | rfl | (congr 1; omega))), (by rw [HLL.out]; try (first | rfl | (congr 1; omega))), by omega, hL2, fun h => absurd h HNE.out, HLP, HO9 |> (fun h => Lib.hid (by have := h.out; rw [← HLL.out] at this; exact this)), HP9 |> (fun h => Lib.hid (by have := h.out; rw [← HLL.out] at this; exact this)), HB9⟩
                  case measure => simp [intOf]; omega
          · obtain ⟨j', rfl⟩ : ∃ j', j = j' + 1 := ⟨j - 1, by omega⟩
            have hjl : j' < L.length := by omega
            have hne : L ≠ [] := List.ne_nil_of_length_pos (by omega)
            obtain ⟨gy, rfl, hgy1, hgy2, hgy3, _, hcell⟩ := prcs_at HP4.out hne
            have HRC := Lib.hid (fun W hW => hcell W hW j' hjl)
            have HPD : Hid ((L.map PrC.p).getD j' (0, 0, 0) = (L[j'].rk, L[j'].gp, L[j'].i)) := Lib.hid (by rw [List.getD_eq_getElem?_getD, List.getElem?_map, List.getElem?_eq_getElem hjl]; rfl)
            have hlb := L[j'].hb
            obtain ⟨hlb1, hlb2, hlb3⟩ := hlb
            clear hlb3
            generalize L[j'].rk = pr at HRC HPD hlb1
            generalize L[j'].gp = pg at HRC HPD hlb2
            generalize L[j'].a = pa at HRC
            generalize L[j'].n = pn at HRC
            generalize L[j'].k = pk at HRC
            generalize L[j'].i = pi at HPD
            have HRD : Hid (∀ W, Below wr.heap.size wr W → Below wr.heap.size wr W ∧ W.cell? ⟨gy, j' * 4, none⟩ = some (.bool true) ∧ W.cell? ⟨gy, j' * 4 + 1, none⟩ = some (.int .i64 pr) ∧ W.cell? ⟨gy, j' * 4 + 2, none⟩ = some (.int .i64 pg) ∧ W.cell? ⟨gy, j' * 4 + 3, none⟩ = some (.slice pa pn pk) ∧ W.cell? ⟨pb, 0, none⟩ = some (.bool true) ∧ W.cell? ⟨pb, 1, none⟩ = some (.int .i64 f.rank) ∧ W.cell? ⟨pb, 2, none⟩ = some (.int .i64 f.gaps) ∧ W.cell? ⟨pb, 3, none⟩ = some (.slice (some ⟨g3, 0, none⟩) m3 m3)) := Lib.hid (fun W hW => by
              have hB := HBJ.out.trans (below_le hW HBJ.out.size)
              obtain ⟨k0, k1, k2, k3⟩ := HRC.out W hB
              obtain ⟨c0, c1, c2, c3⟩ := (HC4.out.below hB).cells
              exact ⟨hW, k0, k1, k2, k3, c0, c1, c2, c3⟩)
            have HDE : Hid (∀ W, Below wr.heap.size wr W → Calls Tryz.prog 49 #[.agg #[.bool true, .int .i64 pr, .int .i64 pg, .slice pa pn pk], .agg #[.bool true, .int .i64 f.rank, .int .i64 f.gaps, .slice (some ⟨g3, 0, none⟩) m3 m3]] W fun e w' => e = .returned (.bool (decide (pr > f.rank ∨ pr = f.rank ∧ pg > f.gaps))) ∧ Below wr.heap.size wr w') := Lib.hid (fun W hW => (rdearer true true pr pg f.rank f.gaps pa (some ⟨g3, 0, none⟩) pn pk m3 m3 W).mono fun e w' h => ⟨h.1, hW.trans (below_le h.2 hW.size)⟩)
            have HDD : Hid (drr ((L.map PrC.p).getD j' (0, 0, 0)) (f.rank, f.gaps, k) = decide (pr > f.rank ∨ pr = f.rank ∧ pg > f.gaps)) := Lib.hid (by rw [HPD.out]; rfl)
            generalize decide (pr > f.rank ∨ pr = f.rank ∧ pg > f.gaps) = bd at HDE HDD
            have j2 : (j' : Int) < (L.length : Int) := by omega
            have j3 : decide ((0 : Int) < ((j' + 1 : Nat) : Int)) = true := decide_eq_true (by omega)
            have j4 : (0 : Int) < ((j' + 1 : Nat) : Int) := by omega
            have j5 : IntKind.i64.wrap (((j' + 1 : Nat) : Int) - 1) = (j' : Int) := by rw [IntKind.wrap_i64]; omega
            have j6 : IntKind.i64.wrap ((j' : Int) + 1 - 1) = (j' : Int) := by rw [IntKind.wrap_i64]; omega
            have j7 : IntKind.i64.wrap (j' : Int) = (j' : Int) := by rw [IntKind.wrap_i64]; omega
            have j8 : j' < L.length := hjl
            have j9 : (0 : Int) ≤ (j' : Int) := by omega
            clear hcell hj0
            go_wp2
            go_region_held3 (fun W => Below wr.heap.size wr W ∧ W.cell? ⟨gy, j' * 4, none⟩ = some (.bool true) ∧ W.cell? ⟨gy, j' * 4 + 1, none⟩ = some (.int .i64 pr) ∧ W.cell? ⟨gy, j' * 4 + 2, none⟩ = some (.int .i64 pg) ∧ W.cell? ⟨gy, j' * 4 + 3, none⟩ = some (.slice pa pn pk) ∧ W.cell? ⟨pb, 0, none⟩ = some (.bool true) ∧ W.cell? ⟨pb, 1, none⟩ = some (.int .i64 f.rank) ∧ W.cell? ⟨pb, 2, none⟩ = some (.int .i64 f.gaps) ∧ W.cell? ⟨pb, 3, none⟩ = some (.slice (some ⟨g3, 0, none⟩) m3 m3))
              (first | exact HRD.out _ (Below.refl _ _).drew | exact HRD.out _ HQ1.out)
              (first
                | (go_at_call 49; (with_reducible refine (HDE.out _ (Below.refl _ _).drew).mono ?_); rintro e y1 ⟨rfl, hb⟩; have HQ1 := Lib.hid hb; clear hb))
            have HBX := Lib.hid (HBJ.out.trans (below_le HQ1.out HBJ.out.size))
            clear HRD HDE HRC HPD HQ1
            cases bd with
            | true =>
              have HDN : Hid (∀ t, j' ≤ t → t < (L.map PrC.p).length → drr ((L.map PrC.p).getD t (0, 0, 0)) (f.rank, f.gaps, k) = true) := Lib.hid (fun t a b => by
                by_cases e : t = j'
                · rw [e]; exact HDD.out
                · exact HDR.out t (by omega) b)
              clear HDR HDD
              go_wp2
              go_roundw
              case rel => exact ⟨j', by go_num, by omega, HDN, HBX⟩
              case measure => simp [intOf]
            | false =>
              have HKA : Hid (kAt (L.map PrC.p) (f.rank, f.gaps, k) (L.map PrC.p).length = j' + 1) := Lib.hid (kAt_is _ (by rw [List.length_map]; omega) HDR.out (.inr (by rw [Nat.add_sub_cancel]; exact HDD.out)))
              have HJL : Hid (j' + 1 ≤ L.length) := Lib.hid (by omega)
              generalize y1 = W5 at HBX ⊢
              clear HDR HDD HBJ
              obtain ⟨J, hJ⟩ : ∃ J, J = j' + 1 := ⟨_, rfl⟩
              rw [← hJ] at HKA HJL
              go_upto_region 12 with (fail)
              rw [show ((j' : Int) + 1) = ((J : Nat) : Int) by omega]
              have hJ1 : 1 ≤ J := by omega
              clear hJ j2 j3 j4 j5 j6 j7 j8 j9 j1 hj hjl hlb1 hlb2 hgy1 hgy2 hgy3
              have HO5 := Lib.hid (row_kept HO4.out (fun j hj => HBX.out.block j (HO4.out.lt j hj).2))
              have HP5 := Lib.hid (row_kept HP4.out (fun j hj => HBX.out.block j (HP4.out.lt j hj).2))
              have hJL := HJL.out
              by_cases hne : L = []
              · rw [hne] at hJL; simp at hJL; omega
              · obtain ⟨g6, rfl, _, hg6, hc6, hsrc6⟩ := idc_at HO5.out hne
                obtain ⟨gy', hye, _, hgy, hd6, hsrcy, _⟩ := prcs_at HP5.out hne
                obtain rfl : gy = gy' := by simpa using hye
                have b6 : Below W5.heap.size W5 (W5.alloc (.cells #[] 3)) := (Below.refl _ _).alloc (Nat.le_refl _) _
                by_cases hcJ : c = J
                · have hc1 := hcJ
                  by_cases hdJ : d = J
                  · have hd1 := hdJ
                    have e1 := empty_row W5 3 1
                    obtain ⟨v7, w7, hr1, ho1, hg1⟩ := app_int e1 (some ⟨g6, 0, none⟩) J c (ints (idc ((L.drop 0).take J))) (by rw [ints_len, idc_len, List.length_take, List.drop_zero]; omega) (.inr ⟨_, rfl, hsrc6 _ b6 0 J (by omega)⟩) (ints_one _) (by omega) (by simp) 30
                    have hB7 : Below W5.heap.size W5 w7 := ((Below.refl W5.heap.size W5).alloc (Nat.le_refl _) _).grown hg1 (by simp) (fun k e => (e1.lt k e).1)
                    have hs7 := hB7.size
                    obtain ⟨v9, w9, hr2, ho2, hg2⟩ := app_int (ho1.alloc (.cells #[.int .i64 (k : Int)] 3)) (some ⟨w7.heap.size, 0, none⟩) 1 1 [.int .i64 (k : Int)] rfl (.inr ⟨_, rfl, cell_one_new _ _ _⟩) (by simp [Value.oneCell']) (by omega) (by simp; omega) 30
                    have hB9 : Below W5.heap.size W5 w9 := (hB7.alloc hs7 _).grown hg2 (by simp; omega) (fun k e => (ho1.lt k e).1)
                    have hs9 := hB9.size
                    obtain ⟨v10, w10, hr3, ho3, hg3'⟩ := app_int ho2 (some ⟨g6, 0, none⟩) (L.length - J) 0 (ints (idc ((L.drop J).take (L.length - J)))) (by rw [ints_len, idc_len, List.length_take, List.length_drop]; omega) (.inr ⟨_, rfl, fun j u hu => by rw [show L.length - J = 0 by omega, List.take_zero] at hu; cases hu⟩) (ints_one _) (by omega) (by omega) 30
                    have hB10 : Below W5.heap.size W5 w10 := hB9.grown hg3' (by omega) (fun k e => (ho2.lt k e).1)
                    have hs10 := hB10.size
                    have e2 := empty_row w10 56 4
                    obtain ⟨v12, w12, hr4, ho4, hg4⟩ := app_prc e2 (some ⟨gy, 0, none⟩) J d (prcs ((L.drop 0).take J)) (by rw [prcs_len, List.length_take, List.drop_zero]; omega) (.inr ⟨_, rfl, by simpa using hsrcy _ (hB10.alloc hs10 (.cells #[] 56)) 0 J (by omega)⟩) (prcs_one _) (by omega) (by simp) 74
                    have hB12 : Below W5.heap.size W5 w12 := (hB10.alloc hs10 _).grown hg4 (by simp; omega) (fun k e => by have := (e2.lt k e).1; omega)
                    have hs12 := hB12.size
                    have hB12' : Below w10.heap.size w10 w12 := ((Below.refl w10.heap.size w10).alloc (Nat.le_refl _) _).grown hg4 (by simp) (fun k e => (e2.lt k e).1)
                    obtain ⟨v14, w14, hr5, ho5, hg5⟩ := app_prc (ho4.alloc (.cells #[.bool true, .int .i64 f.rank, .int .i64 f.gaps, .slice (some ⟨g3, 0, none⟩) m3 m3] 56)) (some ⟨w12.heap.size, 0, none⟩) 1 1 [.bool true, .int .i64 f.rank, .int .i64 f.gaps, .slice (some ⟨g3, 0, none⟩) m3 m3] rfl (.inr ⟨_, rfl, cells_four w12 _ _ _ _ _⟩) (by simp [Value.oneCell']) (by omega) (by have := hB12'.size; simp; omega) 74
                    have hB14 : Below W5.heap.size W5 w14 := (hB12.alloc hs12 _).grown hg5 (by simp; omega) (fun k e => by have := (ho4.lt k e).1; omega)
                    have hs14 := hB14.size
                    have hB14' : Below w10.heap.size w10 w14 := (hB12'.alloc hB12'.size _).grown hg5 (by have := hB12'.size; simp; omega) (fun k e => (ho4.lt k e).1)
                    obtain ⟨v15, w15, hr6, ho6, hg6'⟩ := app_prc ho5 (some ⟨gy, 0, none⟩) (L.length - J) 0 (prcs ((L.drop J).take (L.length - J))) (by rw [prcs_len, List.length_take, List.length_drop]; omega) (.inr ⟨_, rfl, fun j u hu => by rw [show L.length - J = 0 by omega, List.take_zero] at hu; cases hu⟩) (prcs_one _) (by omega) (by have := hB14'.size; omega) 74
                    have hB15 : Below W5.heap.size W5 w15 := hB14.grown hg6' (by omega) (fun k e => by have := (ho5.lt k e).1; omega)
                    have hB15' : Below w10.heap.size w10 w15 := hB14'.grown hg6' (by have := hB14'.size; omega) (fun k e => (ho5.lt k e).1)
                    have HLL : Hid ((L.take J ++ N :: L.drop J).length = 0 + J + 1 + (L.length - J)) := Lib.hid (by rw [List.length_append, List.length_cons, List.length_take, List.length_drop]; omega)
                    have HLP : Hid ((L.take J ++ N :: L.drop J).map PrC.p = (plcN ws opts (k + 1)).foldl insQ []) := Lib.hid (by rw [HLN.out]; unfold insQ; rw [HKA.out, List.map_append, List.map_cons, List.map_take, List.map_drop, HNP.out])
                    have htd : (L.drop J).take (L.length - J) = L.drop J := List.take_of_length_le (by rw [List.length_drop]; omega)
                    have HR1 := Lib.hid hr1
                    have HR2 := Lib.hid hr2
                    have HR3 := Lib.hid hr3
                    have HR4 := Lib.hid hr4
                    have HR5 := Lib.hid hr5
                    have HR6 := Lib.hid hr6
                    have HO9 : Hid (w15.ownsRow w1.heap.size 3 1 v10 (L.take J ++ N :: L.drop J).length (ints (idc (L.take J ++ N :: L.drop J)))) := Lib.hid (by
                      have h := World.ownsRow.mono (row_kept ho3 (fun j hj => hB15'.block j (ho3.lt j hj).2)) (show w1.heap.size ≤ W5.heap.size from Nat.le_trans HB4.out.size HBX.out.size)
                      rw [HLL.out]
                      rw [htd, List.drop_zero, List.nil_append] at h
                      have e : ints (idc (L.take J ++ N :: L.drop J)) = ints (idc (L.take J)) ++ [.int .i64 (k : Int)] ++ ints (idc (L.drop J)) := by
                        rw [show L.take J ++ N :: L.drop J = L.take J ++ ([N] ++ L.drop J) from rfl, idc_app, idc_app, ints_app, ints_app, HNC.out.2, List.append_assoc]
                      rw [e]
                      exact h)
                    have HP9 : Hid (w15.ownsRow w1.heap.size 56 4 v15 (L.take J ++ N :: L.drop J).length (prcs (L.take J ++ N :: L.drop J))) := Lib.hid (by
                      have h := World.ownsRow.mono ho6 (show w1.heap.size ≤ w10.heap.size from Nat.le_trans (Nat.le_trans HB4.out.size HBX.out.size) hs10)
                      rw [HLL.out]
                      rw [htd, List.drop_zero, List.nil_append] at h
                      have e : prcs (L.take J ++ N :: L.drop J) = prcs (L.take J) ++ [.bool true, .int .i64 f.rank, .int .i64 f.gaps, .slice (some ⟨g3, 0, none⟩) m3 m3] ++ prcs (L.drop J) := by
                        rw [show L.take J ++ N :: L.drop J = L.take J ++ ([N] ++ L.drop J) from rfl, prcs_app, prcs_app, HNC.out.1, List.append_assoc]
                      rw [e]
                      exact h)
                    obtain ⟨x10, c10, rfl⟩ := ownsRow_is ho3
                    obtain ⟨x15, c15, rfl⟩ := ownsRow_is ho6
                    have HB9 := Lib.hid ((HB4.out.trans (below_le HBX.out HB4.out.size)).trans (below_le hB15 (Nat.le_trans HB4.out.size HBX.out.size)))
                    have HNE : Hid (L.take J ++ N :: L.drop J ≠ []) := Lib.hid (by simp)
                    obtain ⟨q0, q1, q2, q3⟩ := ((HC4.out.below HBX.out).below hB12).cells
                    generalize L.take J ++ N :: L.drop J = L2 at HLL HLP HO9 HP9 HNE
                    have hL2 : L2.length ≤ k + 1 := by have := HLL.out; omega
                    clear hr1 hr2 hr3 hr4 hr5 hr6 ho1 ho2 ho3 ho4 ho5 ho6 hg1 hg2 hg3' hg4 hg5 hg6' hB7 hB9 hB10 hB12 hB12' hB14 hB14' hB15 hB15' e1 e2 htd hs7 hs9 hs10 hs12 hs14
                    go_wp2_with (first | (at_builtin; refine wpList_appG _ rfl _ _ rfl rfl _ _ _ _ rfl rfl HR1.out ?_; clear HR1) | (at_builtin; refine wpList_appG _ rfl _ _ rfl rfl _ _ _ _ rfl rfl HR2.out ?_; clear HR2) | (at_builtin; refine wpList_appG _ rfl _ _ rfl rfl _ _ _ _ rfl rfl HR3.out ?_; clear HR3) | (at_builtin; refine wpList_appG _ rfl _ _ rfl rfl _ _ _ _ rfl rfl HR4.out ?_; clear HR4) | (at_builtin; refine wpList_appG _ rfl _ _ rfl rfl _ _ _ _ rfl rfl HR5.out ?_; clear HR5) | (at_builtin; refine wpList_appG _ rfl _ _ rfl rfl _ _ _ _ rfl rfl HR6.out ?_; clear HR6))
                    go_roundw
                    case rel => exact ⟨k + 1, L2, x10, c10, x15, c15, by go_num, (by rw [HLL.out]; try (first | rfl | (congr 1; omega))), (by rw [HLL.out]; try (first | rfl | (congr 1; omega))), by omega, hL2, fun h => absurd h HNE.out, HLP, HO9 |> (fun h => Lib.hid (by have := h.out; rw [← HLL.out] at this; exact this)), HP9 |> (fun h => Lib.hid (by have := h.out; rw [← HLL.out] at this; exact this)), HB9⟩
                    case measure => simp [intOf]; omega
                  · have hd1 := hdJ
                    have e1 := empty_row W5 3 1
                    obtain ⟨v7, w7, hr1, ho1, hg1⟩ := app_int e1 (some ⟨g6, 0, none⟩) J c (ints (idc ((L.drop 0).take J))) (by rw [ints_len, idc_len, List.length_take, List.drop_zero]; omega) (.inr ⟨_, rfl, hsrc6 _ b6 0 J (by omega)⟩) (ints_one _) (by omega) (by simp) 30
                    have hB7 : Below W5.heap.size W5 w7 := ((Below.refl W5.heap.size W5).alloc (Nat.le_refl _) _).grown hg1 (by simp) (fun k e => (e1.lt k e).1)
                    have hs7 := hB7.size
                    obtain ⟨v9, w9, hr2, ho2, hg2⟩ := app_int (ho1.alloc (.cells #[.int .i64 (k : Int)] 3)) (some ⟨w7.heap.size, 0, none⟩) 1 1 [.int .i64 (k : Int)] rfl (.inr ⟨_, rfl, cell_one_new _ _ _⟩) (by simp [Value.oneCell']) (by omega) (by simp; omega) 30
                    have hB9 : Below W5.heap.size W5 w9 := (hB7.alloc hs7 _).grown hg2 (by simp; omega) (fun k e => (ho1.lt k e).1)
                    have hs9 := hB9.size
                    obtain ⟨v10, w10, hr3, ho3, hg3'⟩ := app_int ho2 (some ⟨g6, 0, none⟩) (L.length - J) 0 (ints (idc ((L.drop J).take (L.length - J)))) (by rw [ints_len, idc_len, List.length_take, List.length_drop]; omega) (.inr ⟨_, rfl, fun j u hu => by rw [show L.length - J = 0 by omega, List.take_zero] at hu; cases hu⟩) (ints_one _) (by omega) (by omega) 30
                    have hB10 : Below W5.heap.size W5 w10 := hB9.grown hg3' (by omega) (fun k e => (ho2.lt k e).1)
                    have hs10 := hB10.size
                    have e2 := empty_row w10 56 4
                    obtain ⟨v12, w12, hr4, ho4, hg4⟩ := app_prc e2 (some ⟨gy, 0, none⟩) J d (prcs ((L.drop 0).take J)) (by rw [prcs_len, List.length_take, List.drop_zero]; omega) (.inr ⟨_, rfl, by simpa using hsrcy _ (hB10.alloc hs10 (.cells #[] 56)) 0 J (by omega)⟩) (prcs_one _) (by omega) (by simp) 74
                    have hB12 : Below W5.heap.size W5 w12 := (hB10.alloc hs10 _).grown hg4 (by simp; omega) (fun k e => by have := (e2.lt k e).1; omega)
                    have hs12 := hB12.size
                    have hB12' : Below w10.heap.size w10 w12 := ((Below.refl w10.heap.size w10).alloc (Nat.le_refl _) _).grown hg4 (by simp) (fun k e => (e2.lt k e).1)
                    obtain ⟨v14, w14, hr5, ho5, hg5⟩ := app_prc (ho4.alloc (.cells #[.bool true, .int .i64 f.rank, .int .i64 f.gaps, .slice (some ⟨g3, 0, none⟩) m3 m3] 56)) (some ⟨w12.heap.size, 0, none⟩) 1 1 [.bool true, .int .i64 f.rank, .int .i64 f.gaps, .slice (some ⟨g3, 0, none⟩) m3 m3] rfl (.inr ⟨_, rfl, cells_four w12 _ _ _ _ _⟩) (by simp [Value.oneCell']) (by omega) (by have := hB12'.size; simp; omega) 74
                    have hB14 : Below W5.heap.size W5 w14 := (hB12.alloc hs12 _).grown hg5 (by simp; omega) (fun k e => by have := (ho4.lt k e).1; omega)
                    have hs14 := hB14.size
                    have hB14' : Below w10.heap.size w10 w14 := (hB12'.alloc hB12'.size _).grown hg5 (by have := hB12'.size; simp; omega) (fun k e => (ho4.lt k e).1)
                    obtain ⟨v15, w15, hr6, ho6, hg6'⟩ := app_prc ho5 (some ⟨gy, J * 4, none⟩) (L.length - J) (d - J) (prcs ((L.drop J).take (L.length - J))) (by rw [prcs_len, List.length_take, List.length_drop]; omega) (.inr ⟨_, rfl, hsrcy _ hB14 J (L.length - J) (by omega)⟩) (prcs_one _) (by omega) (by have := hB14'.size; omega) 74
                    have hB15 : Below W5.heap.size W5 w15 := hB14.grown hg6' (by omega) (fun k e => by have := (ho5.lt k e).1; omega)
                    have hB15' : Below w10.heap.size w10 w15 := hB14'.grown hg6' (by have := hB14'.size; omega) (fun k e => (ho5.lt k e).1)
                    have HLL : Hid ((L.take J ++ N :: L.drop J).length = 0 + J + 1 + (L.length - J)) := Lib.hid (by rw [List.length_append, List.length_cons, List.length_take, List.length_drop]; omega)
                    have HLP : Hid ((L.take J ++ N :: L.drop J).map PrC.p = (plcN ws opts (k + 1)).foldl insQ []) := Lib.hid (by rw [HLN.out]; unfold insQ; rw [HKA.out, List.map_append, List.map_cons, List.map_take, List.map_drop, HNP.out])
                    have htd : (L.drop J).take (L.length - J) = L.drop J := List.take_of_length_le (by rw [List.length_drop]; omega)
                    have HR1 := Lib.hid hr1
                    have HR2 := Lib.hid hr2
                    have HR3 := Lib.hid hr3
                    have HR4 := Lib.hid hr4
                    have HR5 := Lib.hid hr5
                    have HR6 := Lib.hid hr6
                    have HO9 : Hid (w15.ownsRow w1.heap.size 3 1 v10 (L.take J ++ N :: L.drop J).length (ints (idc (L.take J ++ N :: L.drop J)))) := Lib.hid (by
                      have h := World.ownsRow.mono (row_kept ho3 (fun j hj => hB15'.block j (ho3.lt j hj).2)) (show w1.heap.size ≤ W5.heap.size from Nat.le_trans HB4.out.size HBX.out.size)
                      rw [HLL.out]
                      rw [htd, List.drop_zero, List.nil_append] at h
                      have e : ints (idc (L.take J ++ N :: L.drop J)) = ints (idc (L.take J)) ++ [.int .i64 (k : Int)] ++ ints (idc (L.drop J)) := by
                        rw [show L.take J ++ N :: L.drop J = L.take J ++ ([N] ++ L.drop J) from rfl, idc_app, idc_app, ints_app, ints_app, HNC.out.2, List.append_assoc]
                      rw [e]
                      exact h)
                    have HP9 : Hid (w15.ownsRow w1.heap.size 56 4 v15 (L.take J ++ N :: L.drop J).length (prcs (L.take J ++ N :: L.drop J))) := Lib.hid (by
                      have h := World.ownsRow.mono ho6 (show w1.heap.size ≤ w10.heap.size from Nat.le_trans (Nat.le_trans HB4.out.size HBX.out.size) hs10)
                      rw [HLL.out]
                      rw [htd, List.drop_zero, List.nil_append] at h
                      have e : prcs (L.take J ++ N :: L.drop J) = prcs (L.take J) ++ [.bool true, .int .i64 f.rank, .int .i64 f.gaps, .slice (some ⟨g3, 0, none⟩) m3 m3] ++ prcs (L.drop J) := by
                        rw [show L.take J ++ N :: L.drop J = L.take J ++ ([N] ++ L.drop J) from rfl, prcs_app, prcs_app, HNC.out.1, List.append_assoc]
                      rw [e]
                      exact h)
                    obtain ⟨x10, c10, rfl⟩ := ownsRow_is ho3
                    obtain ⟨x15, c15, rfl⟩ := ownsRow_is ho6
                    have HB9 := Lib.hid ((HB4.out.trans (below_le HBX.out HB4.out.size)).trans (below_le hB15 (Nat.le_trans HB4.out.size HBX.out.size)))
                    have HNE : Hid (L.take J ++ N :: L.drop J ≠ []) := Lib.hid (by simp)
                    obtain ⟨q0, q1, q2, q3⟩ := ((HC4.out.below HBX.out).below hB12).cells
                    generalize L.take J ++ N :: L.drop J = L2 at HLL HLP HO9 HP9 HNE
                    have hL2 : L2.length ≤ k + 1 := by have := HLL.out; omega
                    clear hr1 hr2 hr3 hr4 hr5 hr6 ho1 ho2 ho3 ho4 ho5 ho6 hg1 hg2 hg3' hg4 hg5 hg6' hB7 hB9 hB10 hB12 hB12' hB14 hB14' hB15 hB15' e1 e2 htd hs7 hs9 hs10 hs12 hs14
                    go_wp2_with (first | (at_builtin; refine wpList_appG _ rfl _ _ rfl rfl _ _ _ _ rfl rfl HR1.out ?_; clear HR1) | (at_builtin; refine wpList_appG _ rfl _ _ rfl rfl _ _ _ _ rfl rfl HR2.out ?_; clear HR2) | (at_builtin; refine wpList_appG _ rfl _ _ rfl rfl _ _ _ _ rfl rfl HR3.out ?_; clear HR3) | (at_builtin; refine wpList_appG _ rfl _ _ rfl rfl _ _ _ _ rfl rfl HR4.out ?_; clear HR4) | (at_builtin; refine wpList_appG _ rfl _ _ rfl rfl _ _ _ _ rfl rfl HR5.out ?_; clear HR5) | (at_builtin; refine wpList_appG _ rfl _ _ rfl rfl _ _ _ _ rfl rfl HR6.out ?_; clear HR6))
                    go_roundw
                    case rel => exact ⟨k + 1, L2, x10, c10, x15, c15, by go_num, (by rw [HLL.out]; try (first | rfl | (congr 1; omega))), (by rw [HLL.out]; try (first | rfl | (congr 1; omega))), by omega, hL2, fun h => absurd h HNE.out, HLP, HO9 |> (fun h => Lib.hid (by have := h.out; rw [← HLL.out] at this; exact this)), HP9 |> (fun h => Lib.hid (by have := h.out; rw [← HLL.out] at this; exact this)), HB9⟩
                    case measure => simp [intOf]; omega
                · have hc1 := hcJ
                  by_cases hdJ : d = J
                  · have hd1 := hdJ
                    have e1 := empty_row W5 3 1
                    obtain ⟨v7, w7, hr1, ho1, hg1⟩ := app_int e1 (some ⟨g6, 0, none⟩) J c (ints (idc ((L.drop 0).take J))) (by rw [ints_len, idc_len, List.length_take, List.drop_zero]; omega) (.inr ⟨_, rfl, hsrc6 _ b6 0 J (by omega)⟩) (ints_one _) (by omega) (by simp) 30
                    have hB7 : Below W5.heap.size W5 w7 := ((Below.refl W5.heap.size W5).alloc (Nat.le_refl _) _).grown hg1 (by simp) (fun k e => (e1.lt k e).1)
                    have hs7 := hB7.size
                    obtain ⟨v9, w9, hr2, ho2, hg2⟩ := app_int (ho1.alloc (.cells #[.int .i64 (k : Int)] 3)) (some ⟨w7.heap.size, 0, none⟩) 1 1 [.int .i64 (k : Int)] rfl (.inr ⟨_, rfl, cell_one_new _ _ _⟩) (by simp [Value.oneCell']) (by omega) (by simp; omega) 30
                    have hB9 : Below W5.heap.size W5 w9 := (hB7.alloc hs7 _).grown hg2 (by simp; omega) (fun k e => (ho1.lt k e).1)
                    have hs9 := hB9.size
                    obtain ⟨v10, w10, hr3, ho3, hg3'⟩ := app_int ho2 (some ⟨g6, J, none⟩) (L.length - J) (c - J) (ints (idc ((L.drop J).take (L.length - J)))) (by rw [ints_len, idc_len, List.length_take, List.length_drop]; omega) (.inr ⟨_, rfl, hsrc6 _ hB9 J (L.length - J) (by omega)⟩) (ints_one _) (by omega) (by omega) 30
                    have hB10 : Below W5.heap.size W5 w10 := hB9.grown hg3' (by omega) (fun k e => (ho2.lt k e).1)
                    have hs10 := hB10.size
                    have e2 := empty_row w10 56 4
                    obtain ⟨v12, w12, hr4, ho4, hg4⟩ := app_prc e2 (some ⟨gy, 0, none⟩) J d (prcs ((L.drop 0).take J)) (by rw [prcs_len, List.length_take, List.drop_zero]; omega) (.inr ⟨_, rfl, by simpa using hsrcy _ (hB10.alloc hs10 (.cells #[] 56)) 0 J (by omega)⟩) (prcs_one _) (by omega) (by simp) 74
                    have hB12 : Below W5.heap.size W5 w12 := (hB10.alloc hs10 _).grown hg4 (by simp; omega) (fun k e => by have := (e2.lt k e).1; omega)
                    have hs12 := hB12.size
                    have hB12' : Below w10.heap.size w10 w12 := ((Below.refl w10.heap.size w10).alloc (Nat.le_refl _) _).grown hg4 (by simp) (fun k e => (e2.lt k e).1)
                    obtain ⟨v14, w14, hr5, ho5, hg5⟩ := app_prc (ho4.alloc (.cells #[.bool true, .int .i64 f.rank, .int .i64 f.gaps, .slice (some ⟨g3, 0, none⟩) m3 m3] 56)) (some ⟨w12.heap.size, 0, none⟩) 1 1 [.bool true, .int .i64 f.rank, .int .i64 f.gaps, .slice (some ⟨g3, 0, none⟩) m3 m3] rfl (.inr ⟨_, rfl, cells_four w12 _ _ _ _ _⟩) (by simp [Value.oneCell']) (by omega) (by have := hB12'.size; simp; omega) 74
                    have hB14 : Below W5.heap.size W5 w14 := (hB12.alloc hs12 _).grown hg5 (by simp; omega) (fun k e => by have := (ho4.lt k e).1; omega)
                    have hs14 := hB14.size
                    have hB14' : Below w10.heap.size w10 w14 := (hB12'.alloc hB12'.size _).grown hg5 (by have := hB12'.size; simp; omega) (fun k e => (ho4.lt k e).1)
                    obtain ⟨v15, w15, hr6, ho6, hg6'⟩ := app_prc ho5 (some ⟨gy, 0, none⟩) (L.length - J) 0 (prcs ((L.drop J).take (L.length - J))) (by rw [prcs_len, List.length_take, List.length_drop]; omega) (.inr ⟨_, rfl, fun j u hu => by rw [show L.length - J = 0 by omega, List.take_zero] at hu; cases hu⟩) (prcs_one _) (by omega) (by have := hB14'.size; omega) 74
                    have hB15 : Below W5.heap.size W5 w15 := hB14.grown hg6' (by omega) (fun k e => by have := (ho5.lt k e).1; omega)
                    have hB15' : Below w10.heap.size w10 w15 := hB14'.grown hg6' (by have := hB14'.size; omega) (fun k e => (ho5.lt k e).1)
                    have HLL : Hid ((L.take J ++ N :: L.drop J).length = 0 + J + 1 + (L.length - J)) := Lib.hid (by rw [List.length_append, List.length_cons, List.length_take, List.length_drop]; omega)
                    have HLP : Hid ((L.take J ++ N :: L.drop J).map PrC.p = (plcN ws opts (k + 1)).foldl insQ []) := Lib.hid (by rw [HLN.out]; unfold insQ; rw [HKA.out, List.map_append, List.map_cons, List.map_take, List.map_drop, HNP.out])
                    have htd : (L.drop J).take (L.length - J) = L.drop J := List.take_of_length_le (by rw [List.length_drop]; omega)
                    have HR1 := Lib.hid hr1
                    have HR2 := Lib.hid hr2
                    have HR3 := Lib.hid hr3
                    have HR4 := Lib.hid hr4
                    have HR5 := Lib.hid hr5
                    have HR6 := Lib.hid hr6
                    have HO9 : Hid (w15.ownsRow w1.heap.size 3 1 v10 (L.take J ++ N :: L.drop J).length (ints (idc (L.take J ++ N :: L.drop J)))) := Lib.hid (by
                      have h := World.ownsRow.mono (row_kept ho3 (fun j hj => hB15'.block j (ho3.lt j hj).2)) (show w1.heap.size ≤ W5.heap.size from Nat.le_trans HB4.out.size HBX.out.size)
                      rw [HLL.out]
                      rw [htd, List.drop_zero, List.nil_append] at h
                      have e : ints (idc (L.take J ++ N :: L.drop J)) = ints (idc (L.take J)) ++ [.int .i64 (k : Int)] ++ ints (idc (L.drop J)) := by
                        rw [show L.take J ++ N :: L.drop J = L.take J ++ ([N] ++ L.drop J) from rfl, idc_app, idc_app, ints_app, ints_app, HNC.out.2, List.append_assoc]
                      rw [e]
                      exact h)
                    have HP9 : Hid (w15.ownsRow w1.heap.size 56 4 v15 (L.take J ++ N :: L.drop J).length (prcs (L.take J ++ N :: L.drop J))) := Lib.hid (by
                      have h := World.ownsRow.mono ho6 (show w1.heap.size ≤ w10.heap.size from Nat.le_trans (Nat.le_trans HB4.out.size HBX.out.size) hs10)
                      rw [HLL.out]
                      rw [htd, List.drop_zero, List.nil_append] at h
                      have e : prcs (L.take J ++ N :: L.drop J) = prcs (L.take J) ++ [.bool true, .int .i64 f.rank, .int .i64 f.gaps, .slice (some ⟨g3, 0, none⟩) m3 m3] ++ prcs (L.drop J) := by
                        rw [show L.take J ++ N :: L.drop J = L.take J ++ ([N] ++ L.drop J) from rfl, prcs_app, prcs_app, HNC.out.1, List.append_assoc]
                      rw [e]
                      exact h)
                    obtain ⟨x10, c10, rfl⟩ := ownsRow_is ho3
                    obtain ⟨x15, c15, rfl⟩ := ownsRow_is ho6
                    have HB9 := Lib.hid ((HB4.out.trans (below_le HBX.out HB4.out.size)).trans (below_le hB15 (Nat.le_trans HB4.out.size HBX.out.size)))
                    have HNE : Hid (L.take J ++ N :: L.drop J ≠ []) := Lib.hid (by simp)
                    obtain ⟨q0, q1, q2, q3⟩ := ((HC4.out.below HBX.out).below hB12).cells
                    generalize L.take J ++ N :: L.drop J = L2 at HLL HLP HO9 HP9 HNE
                    have hL2 : L2.length ≤ k + 1 := by have := HLL.out; omega
                    clear hr1 hr2 hr3 hr4 hr5 hr6 ho1 ho2 ho3 ho4 ho5 ho6 hg1 hg2 hg3' hg4 hg5 hg6' hB7 hB9 hB10 hB12 hB12' hB14 hB14' hB15 hB15' e1 e2 htd hs7 hs9 hs10 hs12 hs14
                    go_wp2_with (first | (at_builtin; refine wpList_appG _ rfl _ _ rfl rfl _ _ _ _ rfl rfl HR1.out ?_; clear HR1) | (at_builtin; refine wpList_appG _ rfl _ _ rfl rfl _ _ _ _ rfl rfl HR2.out ?_; clear HR2) | (at_builtin; refine wpList_appG _ rfl _ _ rfl rfl _ _ _ _ rfl rfl HR3.out ?_; clear HR3) | (at_builtin; refine wpList_appG _ rfl _ _ rfl rfl _ _ _ _ rfl rfl HR4.out ?_; clear HR4) | (at_builtin; refine wpList_appG _ rfl _ _ rfl rfl _ _ _ _ rfl rfl HR5.out ?_; clear HR5) | (at_builtin; refine wpList_appG _ rfl _ _ rfl rfl _ _ _ _ rfl rfl HR6.out ?_; clear HR6))
                    go_roundw
                    case rel => exact ⟨k + 1, L2, x10, c10, x15, c15, by go_num, (by rw [HLL.out]; try (first | rfl | (congr 1; omega))), (by rw [HLL.out]; try (first | rfl | (congr 1; omega))), by omega, hL2, fun h => absurd h HNE.out, HLP, HO9 |> (fun h => Lib.hid (by have := h.out; rw [← HLL.out] at this; exact this)), HP9 |> (fun h => Lib.hid (by have := h.out; rw [← HLL.out] at this; exact this)), HB9⟩
                    case measure => simp [intOf]; omega
                  · have hd1 := hdJ
                    have e1 := empty_row W5 3 1
                    obtain ⟨v7, w7, hr1, ho1, hg1⟩ := app_int e1 (some ⟨g6, 0, none⟩) J c (ints (idc ((L.drop 0).take J))) (by rw [ints_len, idc_len, List.length_take, List.drop_zero]; omega) (.inr ⟨_, rfl, hsrc6 _ b6 0 J (by omega)⟩) (ints_one _) (by omega) (by simp) 30
                    have hB7 : Below W5.heap.size W5 w7 := ((Below.refl W5.heap.size W5).alloc (Nat.le_refl _) _).grown hg1 (by simp) (fun k e => (e1.lt k e).1)
                    have hs7 := hB7.size
                    obtain ⟨v9, w9, hr2, ho2, hg2⟩ := app_int (ho1.alloc (.cells #[.int .i64 (k : Int)] 3)) (some ⟨w7.heap.size, 0, none⟩) 1 1 [.int .i64 (k : Int)] rfl (.inr ⟨_, rfl, cell_one_new _ _ _⟩) (by simp [Value.oneCell']) (by omega) (by simp; omega) 30
                    have hB9 : Below W5.heap.size W5 w9 := (hB7.alloc hs7 _).grown hg2 (by simp; omega) (fun k e => (ho1.lt k e).1)
                    have hs9 := hB9.size
                    obtain ⟨v10, w10, hr3, ho3, hg3'⟩ := app_int ho2 (some ⟨g6, J, none⟩) (L.length - J) (c - J) (ints (idc ((L.drop J).take (L.length - J)))) (by rw [ints_len, idc_len, List.length_take, List.length_drop]; omega) (.inr ⟨_, rfl, hsrc6 _ hB9 J (L.length - J) (by omega)⟩) (ints_one _) (by omega) (by omega) 30
                    have hB10 : Below W5.heap.size W5 w10 := hB9.grown hg3' (by omega) (fun k e => (ho2.lt k e).1)
                    have hs10 := hB10.size
                    have e2 := empty_row w10 56 4
                    obtain ⟨v12, w12, hr4, ho4, hg4⟩ := app_prc e2 (some ⟨gy, 0, none⟩) J d (prcs ((L.drop 0).take J)) (by rw [prcs_len, List.length_take, List.drop_zero]; omega) (.inr ⟨_, rfl, by simpa using hsrcy _ (hB10.alloc hs10 (.cells #[] 56)) 0 J (by omega)⟩) (prcs_one _) (by omega) (by simp) 74
                    have hB12 : Below W5.heap.size W5 w12 := (hB10.alloc hs10 _).grown hg4 (by simp; omega) (fun k e => by have := (e2.lt k e).1; omega)
                    have hs12 := hB12.size
                    have hB12' : Below w10.heap.size w10 w12 := ((Below.refl w10.heap.size w10).alloc (Nat.le_refl _) _).grown hg4 (by simp) (fun k e => (e2.lt k e).1)
                    obtain ⟨v14, w14, hr5, ho5, hg5⟩ := app_prc (ho4.alloc (.cells #[.bool true, .int .i64 f.rank, .int .i64 f.gaps, .slice (some ⟨g3, 0, none⟩) m3 m3] 56)) (some ⟨w12.heap.size, 0, none⟩) 1 1 [.bool true, .int .i64 f.rank, .int .i64 f.gaps, .slice (some ⟨g3, 0, none⟩) m3 m3] rfl (.inr ⟨_, rfl, cells_four w12 _ _ _ _ _⟩) (by simp [Value.oneCell']) (by omega) (by have := hB12'.size; simp; omega) 74
                    have hB14 : Below W5.heap.size W5 w14 := (hB12.alloc hs12 _).grown hg5 (by simp; omega) (fun k e => by have := (ho4.lt k e).1; omega)
                    have hs14 := hB14.size
                    have hB14' : Below w10.heap.size w10 w14 := (hB12'.alloc hB12'.size _).grown hg5 (by have := hB12'.size; simp; omega) (fun k e => (ho4.lt k e).1)
                    obtain ⟨v15, w15, hr6, ho6, hg6'⟩ := app_prc ho5 (some ⟨gy, J * 4, none⟩) (L.length - J) (d - J) (prcs ((L.drop J).take (L.length - J))) (by rw [prcs_len, List.length_take, List.length_drop]; omega) (.inr ⟨_, rfl, hsrcy _ hB14 J (L.length - J) (by omega)⟩) (prcs_one _) (by omega) (by have := hB14'.size; omega) 74
                    have hB15 : Below W5.heap.size W5 w15 := hB14.grown hg6' (by omega) (fun k e => by have := (ho5.lt k e).1; omega)
                    have hB15' : Below w10.heap.size w10 w15 := hB14'.grown hg6' (by have := hB14'.size; omega) (fun k e => (ho5.lt k e).1)
                    have HLL : Hid ((L.take J ++ N :: L.drop J).length = 0 + J + 1 + (L.length - J)) := Lib.hid (by rw [List.length_append, List.length_cons, List.length_take, List.length_drop]; omega)
                    have HLP : Hid ((L.take J ++ N :: L.drop J).map PrC.p = (plcN ws opts (k + 1)).foldl insQ []) := Lib.hid (by rw [HLN.out]; unfold insQ; rw [HKA.out, List.map_append, List.map_cons, List.map_take, List.map_drop, HNP.out])
                    have htd : (L.drop J).take (L.length - J) = L.drop J := List.take_of_length_le (by rw [List.length_drop]; omega)
                    have HR1 := Lib.hid hr1
                    have HR2 := Lib.hid hr2
                    have HR3 := Lib.hid hr3
                    have HR4 := Lib.hid hr4
                    have HR5 := Lib.hid hr5
                    have HR6 := Lib.hid hr6
                    have HO9 : Hid (w15.ownsRow w1.heap.size 3 1 v10 (L.take J ++ N :: L.drop J).length (ints (idc (L.take J ++ N :: L.drop J)))) := Lib.hid (by
                      have h := World.ownsRow.mono (row_kept ho3 (fun j hj => hB15'.block j (ho3.lt j hj).2)) (show w1.heap.size ≤ W5.heap.size from Nat.le_trans HB4.out.size HBX.out.size)
                      rw [HLL.out]
                      rw [htd, List.drop_zero, List.nil_append] at h
                      have e : ints (idc (L.take J ++ N :: L.drop J)) = ints (idc (L.take J)) ++ [.int .i64 (k : Int)] ++ ints (idc (L.drop J)) := by
                        rw [show L.take J ++ N :: L.drop J = L.take J ++ ([N] ++ L.drop J) from rfl, idc_app, idc_app, ints_app, ints_app, HNC.out.2, List.append_assoc]
                      rw [e]
                      exact h)
                    have HP9 : Hid (w15.ownsRow w1.heap.size 56 4 v15 (L.take J ++ N :: L.drop J).length (prcs (L.take J ++ N :: L.drop J))) := Lib.hid (by
                      have h := World.ownsRow.mono ho6 (show w1.heap.size ≤ w10.heap.size from Nat.le_trans (Nat.le_trans HB4.out.size HBX.out.size) hs10)
                      rw [HLL.out]
                      rw [htd, List.drop_zero, List.nil_append] at h
                      have e : prcs (L.take J ++ N :: L.drop J) = prcs (L.take J) ++ [.bool true, .int .i64 f.rank, .int .i64 f.gaps, .slice (some ⟨g3, 0, none⟩) m3 m3] ++ prcs (L.drop J) := by
                        rw [show L.take J ++ N :: L.drop J = L.take J ++ ([N] ++ L.drop J) from rfl, prcs_app, prcs_app, HNC.out.1, List.append_assoc]
                      rw [e]
                      exact h)
                    obtain ⟨x10, c10, rfl⟩ := ownsRow_is ho3
                    obtain ⟨x15, c15, rfl⟩ := ownsRow_is ho6
                    have HB9 := Lib.hid ((HB4.out.trans (below_le HBX.out HB4.out.size)).trans (below_le hB15 (Nat.le_trans HB4.out.size HBX.out.size)))
                    have HNE : Hid (L.take J ++ N :: L.drop J ≠ []) := Lib.hid (by simp)
                    obtain ⟨q0, q1, q2, q3⟩ := ((HC4.out.below HBX.out).below hB12).cells
                    generalize L.take J ++ N :: L.drop J = L2 at HLL HLP HO9 HP9 HNE
                    have hL2 : L2.length ≤ k + 1 := by have := HLL.out; omega
                    clear hr1 hr2 hr3 hr4 hr5 hr6 ho1 ho2 ho3 ho4 ho5 ho6 hg1 hg2 hg3' hg4 hg5 hg6' hB7 hB9 hB10 hB12 hB12' hB14 hB14' hB15 hB15' e1 e2 htd hs7 hs9 hs10 hs12 hs14
                    go_wp2_with (first | (at_builtin; refine wpList_appG _ rfl _ _ rfl rfl _ _ _ _ rfl rfl HR1.out ?_; clear HR1) | (at_builtin; refine wpList_appG _ rfl _ _ rfl rfl _ _ _ _ rfl rfl HR2.out ?_; clear HR2) | (at_builtin; refine wpList_appG _ rfl _ _ rfl rfl _ _ _ _ rfl rfl HR3.out ?_; clear HR3) | (at_builtin; refine wpList_appG _ rfl _ _ rfl rfl _ _ _ _ rfl rfl HR4.out ?_; clear HR4) | (at_builtin; refine wpList_appG _ rfl _ _ rfl rfl _ _ _ _ rfl rfl HR5.out ?_; clear HR5) | (at_builtin; refine wpList_appG _ rfl _ _ rfl rfl _ _ _ _ rfl rfl HR6.out ?_; clear HR6))
                    go_roundw
                    case rel => exact ⟨k + 1, L2, x10, c10, x15, c15, by go_num, (by rw [HLL.out]; try (first | rfl | (congr 1; omega))), (by rw [HLL.out]; try (first | rfl | (congr 1; omega))), by omega, hL2, fun h => absurd h HNE.out, HLP, HO9 |> (fun h => Lib.hid (by have := h.out; rw [← HLL.out] at this; exact this)), HP9 |> (fun h => Lib.hid (by have := h.out; rw [← HLL.out] at this; exact this)), HB9⟩
                    case measure => simp [intOf]; omega
    · obtain rfl : k = n := by omega
      have i2 : ¬ (k : Int) < (k : Int) := by omega
      have HFI : Hid (∃ v, v = Value.slice x L.length c ∧ IntO w.heap.size wr v (((plcs ws opts).foldl insQ []).map (·.2.2)) ∧ Below w.heap.size w wr) := Lib.hid ⟨_, rfl, by
        have e : ((plcs ws opts).foldl insQ []).map (·.2.2) = idc L := by
          have h := HL.out
          rw [HN.out, plcN_all] at h
          rw [← h, List.map_map]
          rfl
        rw [e]
        have h := World.ownsRow.mono HO.out HB1.out.size
        unfold IntO
        rw [idc_len]
        exact h, HB1.out.trans (below_le HBB.out HB1.out.size)⟩
      clear HO HP HBB HL
      go_wp2
      go_ret
      obtain ⟨v, rfl, hv1, hv2⟩ := HFI.out
      exact ⟨_, rfl, hv1, hv2⟩
end Go.Proofs.YtdehjofmangmbaaGreat
