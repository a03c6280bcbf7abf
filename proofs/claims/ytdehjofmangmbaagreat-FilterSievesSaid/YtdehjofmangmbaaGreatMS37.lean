/- Own texts, merged: FJ. -/
import Derived.Test.YtdehjofmangmbaaGreatMS36
/- Walks: the reference's price. -/
namespace Go.Proofs.YtdehjofmangmbaaGreat
open Go.RowKit Go.Shelf
theorem make_bools (t : TypeId) (ht : Tryz.prog.underlying t = some (.slice 4)) (n : Nat) (hn : n ≤ 1000000) (W : World) : (Instr.makeSlice t (.int .i64 (n : Int)) (.int .i64 (n : Int))).run Tryz.prog W = .ok (.slice (some ⟨W.heap.size, 0, none⟩) n n) (W.alloc (.cells (bools (mkB [] n)).toArray 4)) := by
  obtain ⟨i0, hi, hz, hs, hb⟩ : ∃ i0, Tryz.prog.info? 4 = some i0 ∧ i0.zero = some (.bool false) ∧ i0.size = 1 ∧ i0.bytes = 1 :=
    info_parts (show (Tryz.prog.info? 4).map (fun i => (i.zero, i.size, i.bytes)) = some (some (.bool false), 1, 1) by kernel_rfl)
  have h := run_make (P := Tryz.prog) W t 4 i0 (.bool false) ht hi hz .i64 .i64 (n : Int) (n : Int) (by omega) (Int.le_refl _) (by rw [hb]; omega) (by omega)
  rw [h, hs, Int.toNat_natCast, Nat.mul_one]
  have e : madeCells (Value.bool false).cells n = (bools (mkB [] n)).toArray := by
    refine Array.ext' ?_
    have := toList_madeCells_one (.bool false) n
    simp only [Value.cells] at this ⊢
    rw [this, mkB_nil]
    simp [bools]
  rw [e]
set_option maxRecDepth 100000 in
set_option maxHeartbeats 3000000 in
theorem rprice (a : Bs) (ws : List (List Bs)) (vq : Value) (ha : a.length ≤ 10000) (hws : ∀ L ∈ ws, L ≠ [] ∧ (∀ c ∈ L, Clu c) ∧ L.flatten.length ≤ 900000 ∧ L.length ≤ 700000) (hwl : ws.length ≤ 700000) (w : World) (h2 : TxV w vq (ws.map List.flatten)) : Calls Tryz.prog 39 #[.string (tx a), vq] w (PrEnd (clS a).length (kepS (clS a) ws) w) := by
  unfold PrEnd
  have HA := Lib.hid (fun W => (rcl a ha W).mono fun e W' h => h.view ha)
  have hoN := clS_ne a
  have hol : (clS a).length ≤ 700000 := by have := clS_len a; omega
  generalize clS a = o at HA hoN hol ⊢
  generalize tx a = TA at HA ⊢
  have HCT := Lib.hid (fun (L : List Bs) (hL : L ∈ ws) (W : World) => (rcut L.flatten (hws L hL).2.2.1 W))
  have HWS := Lib.hid hws
  have HST := Lib.hid (fun (v1 v2 : Value) (wd : List Bs) (W : World) (h1 : TxV W v1 o) (h2 : TxV W v2 wd) => rstand v1 v2 o wd hoN W h1 h2)
  unfold RfEnd at HST
  have HOL := Lib.hid (And.intro hol hwl)
  obtain ⟨xq, cq, rfl, hqc, hq6, hqg⟩ := h2.old
  rw [List.length_map] at hqc hq6 ⊢
  have HG := Lib.hid hqg
  obtain ⟨m, hm⟩ : ∃ m, m = ws.length := ⟨_, rfl⟩
  have HM := Lib.hid hm
  obtain ⟨n, hn⟩ : ∃ n, n = o.length := ⟨_, rfl⟩
  have HN := Lib.hid hn
  have HMK := Lib.hid (fun (W : World) => make_bools 54 Tryz.underlying54 n (by omega) W)
  rw [← hm] at hq6 hqc ⊢
  rw [← hn]
  clear h2 hm hn hqg hws hol hwl ha hoN
  go_enter Tryz.func39, Tryz.ntmps39
  go_wp2_with (first | (go_at_call 28; fail))
  have HZ0 : Hid (C4 56 (w.alloc (.cells #[.bool false, .int .i64 0, .int .i64 0, .slice none 0 0] 56)) w.heap.size (.bool false) (.int .i64 0) (.int .i64 0) (.slice none 0 0)) := Lib.hid (heap_alloc_new _ _)
  have HB0 : Hid (Below w.heap.size w (w.alloc (.cells #[.bool false, .int .i64 0, .int .i64 0, .slice none 0 0] 56))) := Lib.hid ((Below.refl _ _).alloc (Nat.le_refl _) _)
  generalize (w.alloc (.cells #[.bool false, .int .i64 0, .int .i64 0, .slice none 0 0] 56)) = W0 at HZ0 HB0 ⊢
  refine (HA.out W0).mono ?_
  rintro e w1 ⟨v1, rfl, h1, hb1⟩
  have HB1 := Lib.hid (HB0.out.trans (below_le hb1 HB0.out.size))
  have HZ1 := Lib.hid (HZ0.out.below hb1)
  have HV1 := Lib.hid h1
  obtain ⟨x1, c1, rfl, _⟩ := h1.old
  rw [← HN.out]
  have hmk := HMK.out w1
  have HP1 : Hid (PrI 56 w1 w.heap.size (w1.heap.size + 1) w1.heap.size n 0 0 [] ((w1.alloc (.cells (bools (mkB [] n)).toArray 4)).alloc (.cells #[.bool true, .int .i64 0, .int .i64 0, .slice (some ⟨w1.heap.size, 0, none⟩) n n] 56))) := Lib.hid (by
    have hbl : Below w1.heap.size w1 ((w1.alloc (.cells (bools (mkB [] n)).toArray 4)).alloc (.cells #[.bool true, .int .i64 0, .int .i64 0, .slice (some ⟨w1.heap.size, 0, none⟩) n n] 56)) := ((Below.refl _ _).alloc (Nat.le_refl _) _).alloc (by simp) _
    refine ⟨?_, HZ1.out.below hbl, (heap_alloc_old _ _ (by simp)).trans (heap_alloc_new _ _), hbl⟩
    have h := heap_alloc_new (w1.alloc (.cells (bools (mkB [] n)).toArray 4)) (.cells #[.bool true, .int .i64 0, .int .i64 0, .slice (some ⟨w1.heap.size, 0, none⟩) n n] 56)
    simpa [C4] using h)
  have HGP : Hid (w.heap.size < w1.heap.size) := Lib.hid HZ1.out.lt
  clear h1 hb1 HA HB0 HZ0 HZ1
  go_wp2
  generalize ((w1.alloc (.cells (bools (mkB [] n)).toArray 4)).alloc (.cells #[.bool true, .int .i64 0, .int .i64 0, .slice (some ⟨w1.heap.size, 0, none⟩) n n] 56)) = W1 at HP1 ⊢
  obtain ⟨p, hp⟩ : ∃ p, p = w1.heap.size + 1 := ⟨_, rfl⟩
  obtain ⟨g, hg⟩ : ∃ g, g = w1.heap.size := ⟨_, rfl⟩
  rw [← hp, ← hg] at HP1 ⊢
  have HQ : Hid (w.heap.size < g ∧ g < p ∧ w1.heap.size ≤ g) := Lib.hid (by have := HGP.out; omega)
  clear hp hg hmk HMK
  go_loopw [7] (fun iv wr => ∃ (j : Nat) (f : Fnd), iv = .int .i64 (j : Int) ∧ j ≤ m ∧ Hid (kepS o (ws.take j) = some f) ∧ Hid (PrI 56 w1 w.heap.size p g n f.rank f.gaps f.at_ wr)) (fun iv _ => m - (intOf iv).toNat)
  case atStart => exact ⟨0, ⟨0, 0, []⟩, rfl, Nat.zero_le _, Lib.hid rfl, HP1⟩
  case round =>
    clear HP1
    obtain ⟨j, f, rfl, hj, HK, HI⟩ := hrel
    have i1 : (0 : Int) ≤ (j : Int) := by omega
    by_cases hlt : j < m
    · have i2 : (j : Int) < (m : Int) := by omega
      have hjl : j < ws.length := by have := HM.out; omega
      obtain ⟨gq, oq, rfl, hgq, hget⟩ := HG.out (by intro e; have := congrArg List.length e; simp at this; rw [this] at hjl; simp at hjl)
      have hbw := HB1.out.trans (below_le HI.out.bl HB1.out.size)
      have ce : wr.cell? ⟨gq, oq + j, none⟩ = some (.string (tx ws[j].flatten)) := by
        rw [(hbw.cell (p := ⟨gq, oq + j, none⟩) hgq), hget j (by simpa using hjl), List.getD_eq_getElem?_getD, List.getElem?_map, List.getElem?_eq_getElem hjl]
        rfl
      have HSN : Hid (kepS o (ws.take (j + 1)) = kepR o (some f) ws[j]) := Lib.hid (by rw [List.take_succ_eq_append_getElem hjl, kep_snoc, HK.out])
      have HLW := Lib.hid (HWS.out _ (List.getElem_mem hjl))
      have HCL := Lib.hid (fun W => HCT.out _ (List.getElem_mem hjl) W)
      have HKO := Lib.hid (kep_ok o _ _ HK.out)
      have hfl : (ws.take j).length ≤ 700000 := by rw [List.length_take]; have := HOL.out.2; omega
      have hr1 : f.rank ≤ 2800000 := by have := HKO.out.rank; omega
      have hmul : o.length * (ws.take j).length ≤ 700000 * 700000 := Nat.mul_le_mul HOL.out.1 hfl
      have hr2 : f.gaps ≤ 490000000000 := by have := HKO.out.gaps; omega
      generalize ws[j] = L at ce HSN HLW HCL
      obtain ⟨TW, hTW⟩ : ∃ T, T = tx L.flatten := ⟨_, rfl⟩
      rw [← hTW] at ce HCL
      unfold CutEnd at HCL
      rw [cut_flat L HLW.out.2.1] at HCL
      clear hTW hget hmul hfl hbw HKO HK
      go_wp2_with (first | (go_at_call 21; fail))
      refine (HCL.out wr).mono ?_
      rintro e w2 ⟨v2, rfl, hv2, hb2⟩
      have HI2 := Lib.hid (HI.out.below hb2)
      have ht2 := TxV.of_row hv2 (by have := HLW.out.2.2.2; omega)
      have HT2 := Lib.hid ht2
      obtain ⟨x2, c2, rfl, _⟩ := ht2.old
      have HV2 := Lib.hid (HV1.out.below HI2.out.bl)
      rw [← HN.out] at HV2
      clear hv2 hb2 ht2 HCL HI ce
      go_wp2_with (first | (go_at_call 31; fail))
      refine (HST.out _ _ L w2 HV2.out HT2.out).mono ?_
      rintro e w3 ⟨v3, rfl, ⟨x3, c3, rfl, hI3⟩, hb3⟩
      have hal : ∀ o, Below w3.heap.size w3 (w3.alloc o) := fun o => (Below.refl _ _).alloc (Nat.le_refl _) o
      have HI4 : Hid (PrI 56 w1 w.heap.size p g n f.rank f.gaps f.at_ (w3.alloc (.cells #[.bool (fndS o L).isSome, .int .i64 (fnd0 (fndS o L)).rank, .slice x3 (fnd0 (fndS o L)).at_.length c3] 47))) := Lib.hid ((HI2.out.below hb3).below (hal _))
      have HY4 : Hid (IntO w2.heap.size (w3.alloc (.cells #[.bool (fndS o L).isSome, .int .i64 (fnd0 (fndS o L)).rank, .slice x3 (fnd0 (fndS o L)).at_.length c3] 47)) (.slice x3 (fnd0 (fndS o L)).at_.length c3) (fnd0 (fndS o L)).at_) := Lib.hid (hI3.below (hal _))
      have HF4 : Hid (C3 47 (w3.alloc (.cells #[.bool (fndS o L).isSome, .int .i64 (fnd0 (fndS o L)).rank, .slice x3 (fnd0 (fndS o L)).at_.length c3] 47)) w3.heap.size (.bool (fndS o L).isSome) (.int .i64 (fnd0 (fndS o L)).rank) (.slice x3 (fnd0 (fndS o L)).at_.length c3)) := Lib.hid (heap_alloc_new _ _)
      have HFB : Hid (p < w3.heap.size) := Lib.hid (HI2.out.below hb3).c4.lt
      clear hI3 hb3 hal HI2 HT2
      go_upto_region 7 with (fail)
      generalize (w3.alloc (.cells #[.bool (fndS o L).isSome, .int .i64 (fnd0 (fndS o L)).rank, .slice x3 (fnd0 (fndS o L)).at_.length c3] 47)) = W4 at HI4 HY4 HF4 ⊢
      generalize w3.heap.size = fb at HF4 HFB ⊢
      cases hR : fndS o L with
      | none =>
        rw [hR] at HF4 HY4
        have HR : Hid (kepS o ws = none) := Lib.hid (kep_take (j := j + 1) (by rw [HSN.out]; unfold kepR; rw [hR]))
        obtain ⟨y0, _, _, _, _, _⟩ := HF4.out.cells
        have y0' : W4.cell? ⟨fb, 0, none⟩ = some (.bool false) := y0
        obtain ⟨f0, f1, f2, f3⟩ := HI4.out.zr.frozen
        obtain ⟨z0, z1, z2, z3⟩ := HI4.out.zr.cells
        have HPZ := Lib.hid (And.intro (HI4.out.zr.put (a' := .bool false) (b' := .int .i64 0) (c' := .int .i64 0) (d' := .slice none 0 0)) (below_put4 (a := .bool false) (b := .int .i64 0) (c := .int .i64 0) (d := .slice none 0 0) (HB1.out.trans (below_le HI4.out.bl HB1.out.size)) (Nat.le_refl w.heap.size)))
        unfold put4 at HPZ
        clear hR y0
        go_wp2
        refine bodyPost_ret (results_cell rfl _ _ w.heap.size 56 _ _ _ rfl HPZ.out.1 Tryz.underlying56 rfl (by kernel_rfl)) rfl ?_
        rw [HR.out]
        exact ⟨_, rfl, rfl, HPZ.out.2⟩
      | some y =>
        rw [hR] at HF4 HY4
        have hok := fnd_ok hR
        have hyp := fnd_pos hR HLW.out.1
        have hy1 := hok.rank
        have hy2 : y.gaps ≤ 700000 := by have := hok.gaps; have := HOL.out.1; omega
        have hy3 : y.at_.length ≤ 700000 := by have := hok.len; have := HOL.out.1; omega
        have HS : Hid (kepS o (ws.take (j + 1)) = some ⟨f.rank + y.rank, f.gaps + y.gaps, f.at_ ++ y.at_⟩) := Lib.hid (by rw [HSN.out]; unfold kepR; rw [hR])
        have HF5 : Hid (C3 47 W4 fb (.bool true) (.int .i64 y.rank) (.slice x3 y.at_.length c3)) := HF4
        have HY5 : Hid (IntO w2.heap.size W4 (.slice x3 y.at_.length c3) y.at_) := HY4
        have HBD : Hid (∀ k, k < y.at_.length → y.at_.getD k 0 < n) := Lib.hid (fun k hk => by rw [HN.out]; exact hok.at_ _ (getD_mem hk))
        have HGC := Lib.hid (fun (W : World) (h : IntO w2.heap.size W (.slice x3 y.at_.length c3) y.at_) => rgaps true y.rank x3 c3 y.at_ w2.heap.size o.length W h (by have := HOL.out.1; omega) hok.at_ hok.inc)
        rw [hok.gap] at HGC
        clear hok hR HF4 HY4 HSN
        obtain ⟨y0, y1, y2, _, _, _⟩ := HF5.out.cells
        obtain ⟨p0, p1, p2, p3⟩ := HI4.out.c4.cells
        obtain ⟨_, f1, f2, _⟩ := HI4.out.c4.frozen
        go_upto_region 10 with (fail)
        have HI5 := Lib.hid (HI4.out.rank (by have := HQ.out; omega) (by have := HQ.out; omega) (by have := HQ.out; omega) ((f.rank : Int) + (y.rank : Int)))
        have HF6 := Lib.hid (HF5.out.kept (Below.heap_setCell W4 ⟨p, 1, none⟩ (.int .i64 ((f.rank : Int) + (y.rank : Int))) fb (by have := HFB.out; simp; omega)))
        have HY6 := Lib.hid (HY5.out.set_at (o := 1) HI4.out.c4 (by decide) (.int .i64 ((f.rank : Int) + (y.rank : Int))))
        clear y0 y1 y2 p0 p1 p2 p3 f1 f2
        generalize (W4.setCell ⟨p, 1, none⟩ (.int .i64 ((f.rank : Int) + (y.rank : Int)))) = W5 at HI5 HF6 HY6 ⊢
        clear HI4 HF5 HY5
        have HRD : Hid (∀ W, Below W5.heap.size W5 W → Below W5.heap.size W5 W ∧ W.cell? ⟨p, 2, none⟩ = some (.int .i64 f.gaps) ∧ W.frozen? ⟨p, 2, none⟩ = false ∧ W.cell? ⟨fb, 0, none⟩ = some (.bool true) ∧ W.cell? ⟨fb, 1, none⟩ = some (.int .i64 y.rank) ∧ W.cell? ⟨fb, 2, none⟩ = some (.slice x3 y.at_.length c3)) := Lib.hid (fun W hW => by
          obtain ⟨a0, a1, a2, _⟩ := (HF6.out.below hW).cells
          exact ⟨hW, (HI5.out.c4.below hW).cells.2.2.1, (HI5.out.c4.below hW).frozen.2.2.1, a0, a1, a2⟩)
        have HG2 : Hid (∀ W, Below W5.heap.size W5 W → Calls Tryz.prog 32 #[.agg #[.bool true, .int .i64 y.rank, .slice x3 y.at_.length c3]] W fun e w' => e = .returned (.int .i64 (y.gaps : Int)) ∧ Below W5.heap.size W5 w') := Lib.hid (fun W hW =>
          (HGC.out W (HY6.out.below hW)).mono fun e w' h => ⟨h.1, hW.trans (below_le h.2 hW.size)⟩)
        clear HGC
        obtain ⟨_, a1, a2, a3, a4, a5⟩ := HRD.out W5 (Below.refl _ _)
        go_region_with (go_at_call 32; (with_reducible refine (HG2.out _ (Below.refl _ _).drew).mono ?_); rintro e z1 ⟨rfl, hb⟩; (obtain ⟨_, b1, b2, b3, b4, b5⟩ := HRD.out _ hb); have HQ1 := Lib.hid hb; clear hb)
        all_goals
          have HI6 := Lib.hid ((HI5.out.below HQ1.out).gaps (by have := HQ.out; omega) (by have := HQ.out; omega) (by have := HQ.out; omega) ((f.gaps : Int) + (y.gaps : Int)))
          have HF7 := Lib.hid ((HF6.out.below HQ1.out).kept (Below.heap_setCell z1 ⟨p, 2, none⟩ (.int .i64 ((f.gaps : Int) + (y.gaps : Int))) fb (by have := HFB.out; simp; omega)))
          have HY7 := Lib.hid ((HY6.out.below HQ1.out).set_at (o := 2) (HI5.out.below HQ1.out).c4 (by decide) (.int .i64 ((f.gaps : Int) + (y.gaps : Int))))
          clear a1 a2 a3 a4 a5 b1 b2 b3 b4 b5 HRD HG2
          rw [show IntKind.i64.wrap ((f.gaps : Int) + (y.gaps : Int)) = (f.gaps : Int) + (y.gaps : Int) from IntWalk.i64_in _ (by omega)]
          generalize (z1.setCell ⟨p, 2, none⟩ (.int .i64 ((f.gaps : Int) + (y.gaps : Int)))) = W6 at HI6 HF7 HY7 ⊢
          clear HI5 HF6 HY6 HQ1
          go_wp2
          go_loopw [9] (fun iv wr => ∃ kk : Nat, iv = .int .i64 (kk : Int) ∧ kk ≤ y.at_.length ∧ Hid (PrI 56 w1 w.heap.size p g n ((f.rank : Int) + (y.rank : Int)) ((f.gaps : Int) + (y.gaps : Int)) (f.at_ ++ y.at_.take kk) wr ∧ C3 47 wr fb (.bool true) (.int .i64 y.rank) (.slice x3 y.at_.length c3) ∧ IntO w2.heap.size wr (.slice x3 y.at_.length c3) y.at_)) (fun iv _ => y.at_.length - (intOf iv).toNat)
          case atStart => exact ⟨0, rfl, Nat.zero_le _, Lib.hid ⟨by simpa using HI6.out, HF7.out, HY7.out⟩⟩
          case round =>
            clear HI6 HF7 HY7
            obtain ⟨kk, rfl, hkk, HI⟩ := hrel
            have k1 : (0 : Int) ≤ (kk : Int) := by omega
            obtain ⟨_, _, y2, _, _, _⟩ := HI.out.2.1.cells
            by_cases hk2 : kk < y.at_.length
            · have k2 : (kk : Int) < (y.at_.length : Int) := by omega
              obtain ⟨_, gy, hxe, _, hcy, hgy⟩ := HI.out.2.2.get kk hk2
              subst hxe
              have cy := hgy kk hk2
              have hv := HBD.out kk hk2
              obtain ⟨_, _, _, p3⟩ := HI.out.1.c4.cells
              obtain ⟨hc, hf⟩ := HI.out.1.mks.get (y.at_.getD kk 0) (by rw [mkB_len]; exact hv)
              have HNX := Lib.hid (And.intro (HI.out.1.mark (by have := HQ.out; omega) (by have := HQ.out; omega) (by have := HQ.out; omega) (y.at_.getD kk 0)) (And.intro (HI.out.2.1.kept (Below.heap_setCell wr ⟨g, y.at_.getD kk 0, none⟩ (.bool true) fb (by have := HFB.out; have := HQ.out; simp; omega))) (HI.out.2.2.set_at (o := y.at_.getD kk 0) HI.out.1.mks (by decide) (.bool true))))
              have HTK : Hid (f.at_ ++ y.at_.take (kk + 1) = f.at_ ++ y.at_.take kk ++ [y.at_.getD kk 0]) := Lib.hid (by rw [List.take_succ_eq_append_getElem hk2, List.append_assoc, List.getD_eq_getElem?_getD, List.getElem?_eq_getElem hk2]; rfl)
              generalize y.at_.getD kk 0 = q at cy hv hc hf HNX HTK
              generalize (mkB (f.at_ ++ List.take kk y.at_) n).getD q false = bq at hc
              clear hgy HI
              go_wp2
              go_region
              have HNY := Lib.hid (And.intro (HNX.out.1.below (Below.refl _ _).drew) (And.intro (HNX.out.2.1.below (Below.refl _ _).drew) (HNX.out.2.2.below (Below.refl _ _).drew)))
              rw [← HTK.out] at HNY
              go_wp2
              go_roundw
              case rel => exact ⟨kk + 1, by go_num, by omega, HNY⟩
              case measure => simp [intOf]; omega
            · have k2 : ¬ (kk : Int) < (y.at_.length : Int) := by omega
              have HNX : Hid (PrI 56 w1 w.heap.size p g n ((f.rank + y.rank : Nat) : Int) ((f.gaps + y.gaps : Nat) : Int) (f.at_ ++ y.at_) wr) := Lib.hid (by
                have h := HI.out.1
                rw [List.take_of_length_le (by omega)] at h
                simpa using h)
              clear HI
              go_wp2
              go_roundw
              case rel => exact ⟨j + 1, _, by go_num, by omega, HS, HNX⟩
              case measure => simp [intOf]; omega
    · obtain rfl : j = m := by omega
      have HR : Hid (kepS o ws = some f) := Lib.hid (by have h := HK.out; rwa [List.take_of_length_le (by have := HM.out; omega)] at h)
      have i2 : ¬ (j : Int) < (j : Int) := by omega
      obtain ⟨f0, f1, f2, f3⟩ := HI.out.zr.frozen
      obtain ⟨z0, z1, z2, z3⟩ := HI.out.zr.cells
      obtain ⟨p0, p1, p2, p3⟩ := HI.out.c4.cells
      have HPZ := Lib.hid (And.intro (HI.out.zr.put (a' := .bool true) (b' := .int .i64 f.rank) (c' := .int .i64 f.gaps) (d' := .slice (some ⟨g, 0, none⟩) n n)) (below_put4 (a := .bool true) (b := .int .i64 f.rank) (c := .int .i64 f.gaps) (d := .slice (some ⟨g, 0, none⟩) n n) (HB1.out.trans (below_le HI.out.bl HB1.out.size)) (Nat.le_refl w.heap.size)))
      have HMR := Lib.hid (HI.out.mks.kept (put4_other (w := wr) (a := .bool true) (b := .int .i64 f.rank) (c := .int .i64 f.gaps) (d := .slice (some ⟨g, 0, none⟩) n n) (show g ≠ w.heap.size by have := HQ.out; omega)))
      unfold put4 at HPZ HMR
      clear HI HK
      go_wp2
      refine bodyPost_ret (results_cell rfl _ _ w.heap.size 56 _ _ _ rfl HPZ.out.1 Tryz.underlying56 rfl (by kernel_rfl)) rfl ?_
      rw [HR.out]
      exact ⟨_, rfl, ⟨g, rfl, by have := HQ.out; omega, HMR.out⟩, HPZ.out.2⟩
end Go.Proofs.YtdehjofmangmbaaGreat
