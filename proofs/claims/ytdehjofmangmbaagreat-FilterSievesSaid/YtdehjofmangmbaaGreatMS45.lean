/- Own texts, merged: FQ, FR, FX. -/
import Derived.Test.YtdehjofmangmbaaGreatMS44
/- Walks: Sieve. -/
namespace Go.Proofs.YtdehjofmangmbaaGreat
open Go.RowKit Go.Shelf
theorem addr0 (q j : Nat) : (⟨q, 0, none⟩ : Addr).add j = ⟨q, j, none⟩ := by by_cases e : j = 0 <;> simp [Addr.add, e]
theorem cells_four (w : World) (a b c d : Value) (T : TypeId) : ∀ j x, [a, b, c, d][j]? = some x → (w.alloc (.cells #[a, b, c, d] T)).cell? ((⟨w.heap.size, 0, none⟩ : Addr).add j) = some x := fun j x h => by
  rw [addr0]
  have hh := heap_alloc_new w (.cells #[a, b, c, d] T)
  match j, h with
  | 0, h => cases h; unfold World.cell?; simp only; rw [hh]; rfl
  | 1, h => cases h; unfold World.cell?; simp only; rw [hh]; rfl
  | 2, h => cases h; unfold World.cell?; simp only; rw [hh]; rfl
  | 3, h => cases h; unfold World.cell?; simp only; rw [hh]; rfl
  | j + 4, h => cases h
/-- The places of the first options. -/
def idx (L : List PlV) (k : Nat) : List Nat := (L.take k).map (·.i)
theorem idx_len (L : List PlV) (k : Nat) (hk : k ≤ L.length) : (idx L k).length = k := by unfold idx; simp; omega
def SvEnd (l : List Nat) (w : World) (e : Ending) (w' : World) : Prop := ∃ v, e = .returned v ∧ IntO w.heap.size w' v l ∧ Below w.heap.size w w'
set_option maxRecDepth 100000 in
set_option maxHeartbeats 3000000 in
theorem wsieve (q : Bs) (vo : Value) (opts : List Bs) (hq : q.length ≤ 10000) (ho : ∀ s ∈ opts, s.length ≤ 10000) (w : World) (h1 : TxV w vo opts) : Calls Tryz.prog 23 #[.string (tx q), vo] w (SvEnd (sieT q opts) w) := by
  unfold SvEnd
  have HST : Hid (sieT q opts = (sieQ (wds q) opts).map (·.2.2)) := Lib.hid rfl
  rw [HST.out]
  have HB := Lib.hid (fun W => wwords q hq W)
  unfold WdEnd at HB
  have hlb := wds_len q
  have hlb2 := clS_len q
  have HKD : Hid (∀ s ∈ opts, ∀ f, kepS (clS s) (wds q) = some f → f.rank ≤ 2800000 ∧ f.gaps ≤ 490000000000 ∧ f.at_.length ≤ 490000000000) := Lib.hid (fun s hs f hf => by
    have := ks_bd (a := s) (b := q) (ho s hs) hq hf
    exact ⟨this.1, this.2.1, this.2.2.1⟩)
  have HCU := Lib.hid (fun (s : Bs) (hs : s ∈ opts) (W : World) => (wcl s (ho s hs) W).mono fun e W' h => h.view (ho s hs))
  have HKE := Lib.hid (fun (s : Bs) (hs : s ∈ opts) v1 v2 W (h1 : TxV W v1 (clS s)) (h2 : RowsV W v2 (wds q)) => wkept v1 v2 (clS s) (wds q) (clS_ne s) (wds_ne q) (by have := clS_len s; have := ho s hs; omega) (by omega) W h1 h2)
  unfold FndEnd at HKE
  generalize wds q = ws at HB HKD HKE ⊢
  generalize tx q = TQ at HB ⊢
  obtain ⟨xo, co, rfl, hoc, ho6, hog⟩ := h1.old
  have HG := Lib.hid hog
  obtain ⟨n, hn⟩ : ∃ n, n = opts.length := ⟨_, rfl⟩
  have HN := Lib.hid hn
  obtain ⟨i0, hi, hi0, hi1, hi2⟩ := info_place
  have HII := Lib.hid (And.intro hi (And.intro hi0 (And.intro hi1 hi2)))
  obtain ⟨i3, hj, hj0, hj1, hj2⟩ := info_parts3
  have HPP := Lib.hid (And.intro hj (And.intro hj0 (And.intro hj1 hj2)))
  rw [← hn] at hoc ho6 ⊢
  clear h1 hn hog hlb hlb2 hq ho HST hi hi0 hi1 hi2 hj hj0 hj1 hj2
  go_enter Tryz.func23, Tryz.ntmps23
  go_wp2_with (first | (go_at_call 35; fail))
  refine (HB.out w).mono ?_
  rintro e w1 ⟨v1, rfl, h1, hb1⟩
  have HV1 := Lib.hid h1
  have HB1 := Lib.hid hb1
  obtain ⟨x1, c1, rfl, _⟩ := h1
  clear hb1 HB
  go_wp2
  go_loopw [6, 18] (fun v i wr => ∃ (k : Nat) (L : List PlV), i = .int .i64 (k : Int) ∧ k ≤ n ∧ L.length ≤ k ∧ Hid (L.map PlV.p = plcN ws opts k) ∧ Hid (wr.ownsRow w1.heap.size 68 4 v L.length (plvs L)) ∧ Hid (Below w1.heap.size w1 wr)) (fun _ i _ => n - (intOf i).toNat)
  case atStart => exact ⟨0, [], rfl, Nat.zero_le _, Nat.le_refl _, Lib.hid rfl, Lib.hid (World.ownsRow_nil _ _ _ _), Lib.hid (Below.refl _ _)⟩
  case round =>
    obtain ⟨k, L, rfl, hk, hLk, HL, HO, HBB⟩ := hrel
    obtain ⟨x, c, rfl⟩ := ownsRow_is HO.out
    have i1 : (0 : Int) ≤ (k : Int) := by omega
    by_cases hlt : k < n
    · have i2 : (k : Int) < (n : Int) := by omega
      have hkl : k < opts.length := by have := HN.out; omega
      obtain ⟨go, oo, rfl, hgo, hget⟩ := HG.out (List.ne_nil_of_length_pos (by omega))
      have ce : wr.cell? ⟨go, oo + k, none⟩ = some (.string (tx (opts.getD k []))) := (HBB.out.cell (p := ⟨go, oo + k, none⟩) (Nat.lt_of_lt_of_le hgo HB1.out.size)).trans ((HB1.out.cell (p := ⟨go, oo + k, none⟩) hgo).trans (hget k hkl))
      have hmem : opts.getD k [] ∈ opts := by rw [List.getD_eq_getElem?_getD, List.getElem?_eq_getElem hkl]; exact List.getElem_mem _
      have HCK := Lib.hid (fun W => HCU.out _ hmem W)
      have HKK := Lib.hid (fun v1 v2 W h1 h2 => HKE.out _ hmem v1 v2 W h1 h2)
      have HBK := Lib.hid (fun f hf => HKD.out _ hmem f hf)
      have HPS := Lib.hid (plcN_succ ws opts k)
      generalize opts.getD k [] = s at ce HCK HKK HBK HPS
      generalize tx s = TS at ce HCK
      clear hget hmem hkl
      go_wp2_with (first | (go_at_call 30; fail))
      refine (HCK.out wr).mono ?_
      rintro e w2 ⟨v2, rfl, h2, hb2⟩
      have HV2 := Lib.hid h2
      have HBC := Lib.hid (HBB.out.trans (below_le hb2 HBB.out.size))
      have HO2 := Lib.hid (row_kept HO.out (fun j hj => hb2.block j (HO.out.lt j hj).2))
      have HW2 := Lib.hid (HV1.out.below HBC.out)
      obtain ⟨x2, c2, rfl, _⟩ := h2.old
      clear h2 hb2 HBB HO ce
      go_wp2_with (first | (go_at_call 38; fail))
      refine (HKK.out _ _ w2 HV2.out HW2.out).mono ?_
      rintro e w3 ⟨v3, rfl, hv3, hb3⟩
      obtain ⟨x3, c3, rfl, _⟩ := hv3.parts
      have HBD := Lib.hid ((HBC.out.trans (below_le hb3 HBC.out.size)).alloc (HBC.out.trans (below_le hb3 HBC.out.size)).size (.cells #[.int .i64 (fnd0 (kepS (clS s) ws)).rank, .int .i64 (fnd0 (kepS (clS s) ws)).gaps, .slice x3 (fnd0 (kepS (clS s) ws)).at_.length c3] 43))
      have HO3 := Lib.hid ((row_kept HO2.out (fun j hj => hb3.block j (HO2.out.lt j hj).2)).alloc (.cells #[.int .i64 (fnd0 (kepS (clS s) ws)).rank, .int .i64 (fnd0 (kepS (clS s) ws)).gaps, .slice x3 (fnd0 (kepS (clS s) ws)).at_.length c3] 43))
      have HC3 : Hid (C3 43 (w3.alloc (.cells #[.int .i64 (fnd0 (kepS (clS s) ws)).rank, .int .i64 (fnd0 (kepS (clS s) ws)).gaps, .slice x3 (fnd0 (kepS (clS s) ws)).at_.length c3] 43)) w3.heap.size (.int .i64 (fnd0 (kepS (clS s) ws)).rank) (.int .i64 (fnd0 (kepS (clS s) ws)).gaps) (.slice x3 (fnd0 (kepS (clS s) ws)).at_.length c3)) := Lib.hid (heap_alloc_new _ _)
      clear hv3 hb3 HBC HO2 HCK HKK HW2 HV2
      go_upto_region 7 with (fail)
      generalize (w3.alloc (.cells #[.int .i64 (fnd0 (kepS (clS s) ws)).rank, .int .i64 (fnd0 (kepS (clS s) ws)).gaps, .slice x3 (fnd0 (kepS (clS s) ws)).at_.length c3] 43)) = W4 at HBD HO3 HC3 ⊢
      generalize w3.heap.size = fb at HC3 ⊢
      cases hR : kepS (clS s) ws with
      | none =>
        have HLN : Hid (L.map PlV.p = plcN ws opts (k + 1)) := Lib.hid (by rw [HPS.out, hR, HL.out]; simp)
        clear HC3 HL HPS hR
        have z1 : (none : Option Fnd).isSome = false := rfl
        go_wp2
        go_roundw
        case rel => exact ⟨k + 1, L, by go_num, by omega, by omega, HLN, HO3, HBD⟩
        case measure => simp [intOf]; omega
      | some f =>
        rw [hR] at HC3
        obtain ⟨hf1, hf2, hf3⟩ := HBK.out f hR
        have HC4 : Hid (C3 43 W4 fb (.int .i64 f.rank) (.int .i64 f.gaps) (.slice x3 f.at_.length c3)) := HC3
        obtain ⟨e0, e1, e2, _, _, _⟩ := HC4.out.cells
        obtain ⟨N, hN⟩ : ∃ N : PlV, N = ⟨f.rank, f.gaps, x3, f.at_.length, c3, k, by omega⟩ := ⟨_, rfl⟩
        have HLN : Hid ((L ++ [N]).map PlV.p = plcN ws opts (k + 1)) := Lib.hid (by rw [HPS.out, hR, List.map_append, HL.out, hN]; rfl)
        have HNC : Hid (plvs [N] = [.int .i64 f.rank, .int .i64 f.gaps, .slice x3 f.at_.length c3, .int .i64 (k : Int)]) := Lib.hid (by rw [hN]; rfl)
        clear HC3 HL HPS hR hN
        have z1 : (some f).isSome = true := rfl
        have hbs := HBD.out.size
        go_wp2_with (at_builtin; go_loud (refine wpList_append_own _ rfl _ _ 66 rfl w1.heap.size 68 i0 (.agg #[.int .i64 0, .int .i64 0, .slice none 0 0, .int .i64 0]) 4 48 Tryz.underlying66 HII.out.1 HII.out.2.1 HII.out.2.2.1 HII.out.2.2.2 rfl (by decide) _ _ _ rfl (HO3.out.alloc _) ⟨W4.heap.size, 0, none⟩ 1 1 [.int .i64 f.rank, .int .i64 f.gaps, .slice x3 f.at_.length c3, .int .i64 (k : Int)] rfl rfl (cells_four W4 _ _ _ _ _) (by simp [Value.oneCell']) (by unfold maxLen; omega) (by omega) (by simp; omega) ?_))
        intro v' w5 ho5 hg5 _
        have HO5 : Hid (w5.ownsRow w1.heap.size 68 4 v' (L ++ [N]).length (plvs (L ++ [N]))) := Lib.hid (by rw [plvs_app, HNC.out, List.length_append]; exact ho5)
        have HB5 : Hid (Below w1.heap.size w1 w5) := Lib.hid ((HBD.out.alloc hbs _).grown hg5 (by simp; omega) (fun k e => (HO3.out.lt k e).1))
        clear ho5 hg5
        go_wp2
        go_roundw
        case rel => exact ⟨k + 1, L ++ [N], by go_num, by omega, by rw [List.length_append]; simp; omega, HLN, HO5, HB5⟩
        case measure => simp [intOf]; omega
    · obtain rfl : k = n := by omega
      have i2 : ¬ (k : Int) < (k : Int) := by omega
      have HPL : Hid (L.map PlV.p = plcs ws opts) := Lib.hid (by rw [HL.out, HN.out]; exact plcN_all ws opts)
      have hL6 : L.length ≤ 1000000 := by omega
      have HSO := Lib.hid (wsortf HO.out hL6 HBB.out.size)
      clear HL
      go_wp2_with (first | (go_at_call 46; fail))
      refine HSO.out.mono ?_
      rintro e w5 ⟨rfl, L', hL', hs⟩
      have HS := Lib.hid hs
      have HBE : Hid (Below w1.heap.size w1 w5) := Lib.hid (by
        rcases hs with ⟨_, rfl, _⟩ | ⟨g, _, _, _, hs⟩
        · exact HBB.out
        · exact HBB.out.trans hs.bel)
      have HBF := Lib.hid (HB1.out.trans (below_le HBE.out HB1.out.size))
      have HRS : Hid (L'.map PlV.p = sieQ ws opts) := Lib.hid (by
        rcases hs with ⟨h1, _, rfl⟩ | ⟨g, _, _, _, hs⟩
        · subst h1
          exact sie_is (by rw [← HPL.out]) (by simp)
        · exact sie_is (by rw [← HPL.out]; exact hs.perm.map _) hs.sort)
      have hnl : L.length = L'.length := hL'.symm
      have HIE : Hid (∀ W, Below w5.heap.size w5 W → ∀ j, (hj : j < L'.length) → ∃ g, x = some ⟨g, 0, none⟩ ∧ L'.length ≤ c ∧ W.cell? ⟨g, j * 4, none⟩ = some (.int .i64 L'[j].rk) ∧ W.cell? ⟨g, j * 4 + 1, none⟩ = some (.int .i64 L'[j].gp) ∧ W.cell? ⟨g, j * 4 + 2, none⟩ = some (.slice L'[j].a L'[j].n L'[j].k) ∧ W.cell? ⟨g, j * 4 + 3, none⟩ = some (.int .i64 L'[j].i)) := Lib.hid (fun W hW j hj => by
        rcases HS.out with ⟨_, _, rfl⟩ | ⟨g, e, hg, hgc, hs⟩
        · simp at hj
        · obtain ⟨c0, c1, c2, c3⟩ := hs.cell j hj
          have hgl : g < w5.heap.size := Nat.lt_of_lt_of_le hg hs.bel.size
          exact ⟨g, e, by omega, (hW.cell (p := ⟨g, j * 4, none⟩) hgl).trans c0, (hW.cell (p := ⟨g, j * 4 + 1, none⟩) hgl).trans c1, (hW.cell (p := ⟨g, j * 4 + 2, none⟩) hgl).trans c2, (hW.cell (p := ⟨g, j * 4 + 3, none⟩) hgl).trans c3⟩)
      rw [hnl]
      have HLL : Hid (L'.length ≤ 1000000) := Lib.hid (by omega)
      clear hs HSO HO HBB HS HBE hLk hL6 hL' hnl
      go_wp2
      go_loopw [11, 42] (fun v i wr => ∃ k : Nat, i = .int .i64 (k : Int) ∧ k ≤ L'.length ∧ Hid (IntO w5.heap.size wr v (idx L' k)) ∧ Hid (Below w5.heap.size w5 wr)) (fun _ i _ => L'.length - (intOf i).toNat)
      case atStart => exact ⟨0, rfl, Nat.zero_le _, Lib.hid (IntO.nil _ _), Lib.hid (Below.refl _ _)⟩
      case round =>
        obtain ⟨k, rfl, hk, HO, HBB⟩ := hrel
        obtain ⟨x9, c9, rfl⟩ := HO.out.is
        have i1 : (0 : Int) ≤ (k : Int) := by omega
        by_cases hlt : k < L'.length
        · have i2 : (k : Int) < (L'.length : Int) := by omega
          obtain ⟨g, hxe, hgc, e0, e1, e2, e3⟩ := HIE.out wr HBB.out k hlt
          subst hxe
          have HTK : Hid (idx L' (k + 1) = idx L' k ++ [L'[k].i]) := Lib.hid (by unfold idx; rw [List.take_succ_eq_append_getElem hlt, List.map_append]; rfl)
          have hbi := L'[k].hb
          obtain ⟨hbi1, hbi2, hbi3⟩ := hbi
          generalize L'[k].rk = a0 at e0 hbi1
          generalize L'[k].gp = a1 at e1 hbi2
          generalize L'[k].a = a2 at e2
          generalize L'[k].n = a4 at e2
          generalize L'[k].k = a5 at e2
          generalize L'[k].i = a3 at e3 HTK hbi3
          have hml : (idx L' k).length = k := idx_len _ _ hk
          have hll : L'.length ≤ 1000000 := by have := HLL.out; omega
          have HO2 := Lib.hid (HO.out.below ((Below.refl wr.heap.size wr).alloc (Nat.le_refl _) (.cells #[.int .i64 a0, .int .i64 a1, .slice a2 a4 a5, .int .i64 a3] 68)))
          have HBC := Lib.hid (HBB.out.alloc HBB.out.size (.cells #[.int .i64 a0, .int .i64 a1, .slice a2 a4 a5, .int .i64 a3] 68))
          have HC5 : Hid (C4 68 (wr.alloc (.cells #[.int .i64 a0, .int .i64 a1, .slice a2 a4 a5, .int .i64 a3] 68)) wr.heap.size (.int .i64 a0) (.int .i64 a1) (.slice a2 a4 a5) (.int .i64 a3)) := Lib.hid (heap_alloc_new _ _)
          clear HO HBB
          go_upto_region 15 with (fail)
          generalize (wr.alloc (.cells #[.int .i64 a0, .int .i64 a1, .slice a2 a4 a5, .int .i64 a3] 68)) = W7 at HO2 HBC HC5 ⊢
          generalize wr.heap.size = pb at HC5 ⊢
          obtain ⟨_, _, _, c3⟩ := HC5.out.cells
          have hbs := HBC.out.size
          clear e0 e1 e2 e3
          go_wp2_with (at_builtin; go_loud (refine wpList_append_own _ rfl _ _ 30 rfl w5.heap.size 3 i3 (.int .i64 0) 1 8 Tryz.underlying30 HPP.out.1 HPP.out.2.1 HPP.out.2.2.1 HPP.out.2.2.2 rfl (by decide) _ _ _ rfl (HO2.out.alloc _) ⟨W7.heap.size, 0, none⟩ 1 1 [.int .i64 (a3 : Int)] rfl rfl (cell_one_new _ _ _) (by simp [Value.oneCell']) (by unfold maxLen; omega) (by omega) (by simp; omega) ?_))
          intro v' w8 ho8 hg8 _
          have HO8 : Hid (IntO w5.heap.size w8 v' (idx L' (k + 1))) := Lib.hid (by rw [HTK.out]; unfold IntO; rw [ints_app, List.length_append, hml]; exact ho8)
          have HB8 : Hid (Below w5.heap.size w5 w8) := Lib.hid ((HBC.out.alloc hbs _).grown hg8 (by simp; omega) (fun k e => (HO2.out.lt k (by rw [hml]; exact e)).1))
          clear ho8 hg8
          go_wp2
          go_roundw
          case rel => exact ⟨k + 1, by go_num, by omega, HO8, HB8⟩
          case measure => simp [intOf]; omega
        · obtain rfl : k = L'.length := by omega
          have i2 : ¬ (L'.length : Int) < (L'.length : Int) := by omega
          have HR : Hid (idx L' L'.length = (sieQ ws opts).map (·.2.2)) := Lib.hid (by unfold idx; rw [List.take_length, ← HRS.out, List.map_map]; rfl)
          have HFI : Hid (∃ v, v = Value.slice x9 (idx L' L'.length).length c9 ∧ IntO w.heap.size wr v ((sieQ ws opts).map (·.2.2)) ∧ Below w.heap.size w wr) := Lib.hid ⟨_, rfl, by have h := HO.out.mono HBF.out.size; rw [HR.out] at h ⊢; exact h, HBF.out.trans (below_le HBB.out HBF.out.size)⟩
          clear HO HBB
          go_wp2
          go_ret
          obtain ⟨v, rfl, hv1, hv2⟩ := HFI.out
          exact ⟨_, rfl, hv1, hv2⟩
end Go.Proofs.YtdehjofmangmbaaGreat
/- Walks: the page's examples, cut. -/
namespace Go.Proofs.YtdehjofmangmbaaGreat
open Go.RowKit Go.Shelf
def exO : List Bs := [[116, 114, 101, 101], [109, 111, 114, 101, 32, 114, 101, 100], [82, 101, 100], [114, 97, 116, 101]]
set_option maxRecDepth 100000 in
theorem ex_sieve : sieT [114, 101] exO = [2, 1, 0, 3] := by kernel_rfl
set_option maxRecDepth 100000 in
theorem ex_marks : mksS [116, 114, 101, 101] [116, 101] = [0, 2] := by kernel_rfl
set_option maxRecDepth 100000 in
theorem ex_fold : foldS [65, 98] = [97, 98] := by kernel_rfl
theorem exO_row {w : World} {g : Nat} (h : w.heap[g]? = some (.cells #[.string ⟨#[116, 114, 101, 101]⟩, .string ⟨#[109, 111, 114, 101, 32, 114, 101, 100]⟩, .string ⟨#[82, 101, 100]⟩, .string ⟨#[114, 97, 116, 101]⟩] 9 (0, 0))) : TxV w (.slice (some ⟨g, 0, none⟩) 4 4) exO := by
  refine ⟨by decide, .inr ⟨g, 0, 4, rfl, by decide, (Array.getElem?_eq_some_iff.1 h).1, fun i hi => ?_⟩⟩
  match i, hi with
  | 0, _ => simp [World.cell?, h]; rfl
  | 1, _ => simp [World.cell?, h]; rfl
  | 2, _ => simp [World.cell?, h]; rfl
  | 3, _ => simp [World.cell?, h]; rfl
  | n + 4, hi => exact absurd hi (by simp [exO])
set_option maxRecDepth 100000 in
set_option maxHeartbeats 4000000 in
theorem wawake (w : World) : Calls Tryz.prog 15 #[] w fun e w' => e = .returned (.bool true) ∧ Below w.heap.size w w' := by
  have HS : Hid (∀ W v, TxV W v exO → Calls Tryz.prog 23 #[.string ⟨#[114, 101]⟩, v] W (SvEnd [2, 1, 0, 3] W)) := Lib.hid (fun W v h => by
    have := wsieve [114, 101] v exO (by decide) (by decide) W h
    rw [ex_sieve] at this
    exact this)
  have HM : Hid (∀ W, Calls Tryz.prog 18 #[.string ⟨#[116, 114, 101, 101]⟩, .string ⟨#[116, 101]⟩] W fun e w' => ∃ v, e = .returned v ∧ IntV w' v [0, 2] ∧ Below W.heap.size W w') := Lib.hid (fun W => by
    have := wmarksF [116, 114, 101, 101] [116, 101] (by decide) (by decide) W
    unfold MkEnd at this
    rw [ex_marks] at this
    exact this)
  have HF : Hid (∀ W, Calls Tryz.prog 10 #[.string ⟨#[65, 98]⟩] W fun e w' => e = .returned (.string ⟨#[97, 98]⟩) ∧ Below W.heap.size W w') := Lib.hid (fun W => by
    have := wfold [65, 98] (by decide) W
    rw [ex_fold] at this
    exact this)
  unfold SvEnd at HS
  have HB1 : Hid (Below w.heap.size w (w.alloc (.cells #[.string ⟨#[116, 114, 101, 101]⟩, .string ⟨#[109, 111, 114, 101, 32, 114, 101, 100]⟩, .string ⟨#[82, 101, 100]⟩, .string ⟨#[114, 97, 116, 101]⟩] 9))) := Lib.hid ((Below.refl _ _).alloc (Nat.le_refl _) _)
  have HX : Hid (TxV (w.alloc (.cells #[.string ⟨#[116, 114, 101, 101]⟩, .string ⟨#[109, 111, 114, 101, 32, 114, 101, 100]⟩, .string ⟨#[82, 101, 100]⟩, .string ⟨#[114, 97, 116, 101]⟩] 9)) (.slice (some ⟨w.heap.size, 0, none⟩) 4 4) exO) := Lib.hid (exO_row (heap_alloc_new _ _))
  go_enter Tryz.func15, Tryz.ntmps15
  go_wp2_with (first | (go_at_call 23; fail))
  generalize (w.alloc (.cells #[.string ⟨#[116, 114, 101, 101]⟩, .string ⟨#[109, 111, 114, 101, 32, 114, 101, 100]⟩, .string ⟨#[82, 101, 100]⟩, .string ⟨#[114, 97, 116, 101]⟩] 9)) = W0 at HB1 HX ⊢
  refine (HS.out W0 _ HX.out).mono ?_
  rintro e w2 ⟨v2, rfl, hv2, hb2⟩
  have HB2 := Lib.hid (HB1.out.trans (below_le hb2 HB1.out.size))
  obtain ⟨x2, c2, rfl⟩ := hv2.is
  obtain ⟨_, g, rfl, hg, hc2, hget⟩ := hv2.get 0 (by decide)
  have HC2 : Hid (4 ≤ c2 ∧ g < w2.heap.size ∧ w2.cell? ⟨g, 0, none⟩ = some (.int .i64 2) ∧ w2.cell? ⟨g, 1, none⟩ = some (.int .i64 1) ∧ w2.cell? ⟨g, 2, none⟩ = some (.int .i64 0) ∧ w2.cell? ⟨g, 3, none⟩ = some (.int .i64 3)) := Lib.hid ⟨hc2, hg, hget 0 (by decide), hget 1 (by decide), hget 2 (by decide), hget 3 (by decide)⟩
  clear hv2 hb2 hget hg hc2 HX HB1
  go_wp2_with (first | (go_at_call 18; fail))
  refine (HM.out w2).mono ?_
  rintro e w3 ⟨v3, rfl, hv3, hb3⟩
  have HB3 := Lib.hid (HB2.out.trans (below_le hb3 HB2.out.size))
  obtain ⟨hc2, hg, k0, k1, k2, k3⟩ := HC2.out
  have j0 := (hb3.cell (p := ⟨g, 0, none⟩) hg).trans k0
  have j1 := (hb3.cell (p := ⟨g, 1, none⟩) hg).trans k1
  have j2 := (hb3.cell (p := ⟨g, 2, none⟩) hg).trans k2
  have j3 := (hb3.cell (p := ⟨g, 3, none⟩) hg).trans k3
  obtain ⟨x3, c3, rfl, hc3, h3⟩ := hv3
  obtain ⟨g3, rfl, hg3, hget3⟩ := h3 (by simp)
  have m0 : w3.cell? ⟨g3, 0, none⟩ = some (.int .i64 0) := hget3 0 (by decide)
  have m1 : w3.cell? ⟨g3, 1, none⟩ = some (.int .i64 2) := hget3 1 (by decide)
  have hc3' : 2 ≤ c3 := hc3
  have e2 : ([0, 2] : List Nat).length = 2 := rfl
  rw [e2]
  clear h3 hget3 hb3 k0 k1 k2 k3 HC2 hc3 e2
  go_wp2_with (first | (go_at_call 10; fail))
  refine (HF.out w3).mono ?_
  rintro e w4 ⟨rfl, hb4⟩
  have HB4 := Lib.hid (HB3.out.trans (below_le hb4 HB3.out.size))
  clear hb4
  go_wp2
  go_ret
  exact ⟨rfl, HB4.out⟩
theorem tx_take (l : Bs) (n : Nat) : (tx l).extract 0 n = tx (l.take n) := by
  unfold tx
  apply ByteArray.ext
  apply Array.ext'
  simp [ByteArray.extract, ByteArray.copySlice]
theorem lcut (a : Bs) (w : World) : Calls Tryz.prog 7 #[.string (tx a)] w fun e w' => e = .returned (.string (tx (a.take 60))) ∧ w = w' := by
  have hs : (tx a).size = a.length := by simp [tx, ByteArray.size]
  by_cases h : 60 < a.length
  · have hx := tx_take a 60
    have i1 : (60 : Int) < ((tx a).size : Int) := by omega
    generalize tx (a.take 60) = U at hx ⊢
    generalize tx a = T at hs hx i1 ⊢
    have hT : 60 ≤ T.size := by omega
    go_enter Tryz.func7, Tryz.ntmps7
    go_wp2
    go_ret
    exact ⟨by first | rw [hx] | rfl, rfl⟩
  · have hx : a.take 60 = a := List.take_of_length_le (by omega)
    rw [hx]
    have i1 : ¬ (60 : Int) < ((tx a).size : Int) := by omega
    generalize tx a = T at hs i1 ⊢
    go_enter Tryz.func7, Tryz.ntmps7
    go_wp2
    go_ret
    exact ⟨rfl, rfl⟩
end Go.Proofs.YtdehjofmangmbaaGreat
/- Rows of prices; walks: the reference's dearer and Sieve. -/
namespace Go.Proofs.YtdehjofmangmbaaGreat
open Go.RowKit Go.Shelf
/-- A price of an option that is kept, as it stands in memory, and the option's place. -/
structure PrC where
  rk : Nat
  gp : Nat
  a : Option Addr
  n : Nat
  k : Nat
  i : Nat
  hb : rk ≤ 1000000000000000 ∧ gp ≤ 1000000000000000 ∧ i ≤ 1000000000000000
def PrC.c (x : PrC) : List Value := [.bool true, .int .i64 x.rk, .int .i64 x.gp, .slice x.a x.n x.k]
def PrC.p (x : PrC) : Plc := (x.rk, x.gp, x.i)
def prcs (L : List PrC) : List Value := L.flatMap PrC.c
def idc (L : List PrC) : List Nat := L.map (·.i)
theorem idc_app (A B : List PrC) : idc (A ++ B) = idc A ++ idc B := by simp [idc]
theorem idc_len (L : List PrC) : (idc L).length = L.length := by simp [idc]
theorem ints_len (l : List Nat) : (ints l).length = l.length := by simp [ints]
theorem prcs_len (L : List PrC) : (prcs L).length = L.length * 4 := by
  induction L with
  | nil => rfl
  | cons x L ih => unfold prcs at ih ⊢; rw [List.flatMap_cons, List.length_append, ih, List.length_cons]; show 4 + _ = _; omega
theorem prcs_app (A B : List PrC) : prcs (A ++ B) = prcs A ++ prcs B := by simp [prcs]
theorem prcs_one (L : List PrC) : ∀ u ∈ prcs L, u.oneCell' = true := by
  intro u hu
  obtain ⟨x, _, hx⟩ := List.mem_flatMap.1 hu
  simp [PrC.c] at hx
  rcases hx with rfl | rfl | rfl | rfl <;> rfl
theorem ints_one (l : List Nat) : ∀ u ∈ ints l, u.oneCell' = true := by
  intro u hu
  obtain ⟨x, _, rfl⟩ := List.mem_map.1 hu
  rfl
theorem prcs_get : ∀ (L : List PrC) (j : Nat) (hj : j < L.length), (prcs L)[j * 4]? = some (.bool true) ∧ (prcs L)[j * 4 + 1]? = some (.int .i64 L[j].rk) ∧ (prcs L)[j * 4 + 2]? = some (.int .i64 L[j].gp) ∧ (prcs L)[j * 4 + 3]? = some (.slice L[j].a L[j].n L[j].k)
  | x :: L, 0, _ => ⟨rfl, rfl, rfl, rfl⟩
  | x :: L, j + 1, hj => by
    have ih := prcs_get L j (by simpa using hj)
    have e : prcs (x :: L) = x.c ++ prcs L := by simp [prcs]
    have hc : x.c.length = 4 := rfl
    rw [e]
    have s : ∀ t, (x.c ++ prcs L)[(j + 1) * 4 + t]? = (prcs L)[j * 4 + t]? := fun t => by
      rw [List.getElem?_append_right (by omega)]
      congr 1
      omega
    exact ⟨(s 0).trans ih.1, (s 1).trans ih.2.1, (s 2).trans ih.2.2.1, (s 3).trans ih.2.2.2⟩
theorem addrk (q a j : Nat) : (⟨q, a, none⟩ : Addr).add j = ⟨q, a + j, none⟩ := by by_cases e : j = 0 <;> simp [Addr.add, e]
theorem info_price : ∃ i0, Tryz.prog.info? 56 = some i0 ∧ i0.zero = some (.agg #[.bool false, .int .i64 0, .int .i64 0, .slice none 0 0]) ∧ i0.size = 4 ∧ i0.bytes = 48 :=
  info_parts (show (Tryz.prog.info? 56).map (fun i => (i.zero, i.size, i.bytes)) = some (some (.agg #[.bool false, .int .i64 0, .int .i64 0, .slice none 0 0]), 4, 48) by kernel_rfl)
theorem app_int {w : World} {base : Nat} {v : Value} {k : Nat} {xs : List Value} (hown : w.ownsRow base 3 1 v k xs) (x : Option Addr) (m c : Nat) (news : List Value) (hl : news.length = m * 1)
    (hsrc : (x = none ∧ m = 0 ∧ c = 0) ∨ ∃ a, x = some a ∧ ∀ j u, news[j]? = some u → w.cell? (a.add j) = some u) (h1 : ∀ u ∈ news, u.oneCell' = true) (hk : k + m ≤ 200000) (hb : base ≤ w.heap.size) (ty : TypeId) :
    ∃ v' w', (Builtin.append_ #[30, 30] ty #[v, .slice x m c]).run Tryz.prog w = .ok v' w' ∧ w'.ownsRow base 3 1 v' (k + m) (xs ++ news) ∧ w.grownBy w' v.ownBlock := by
  obtain ⟨i0, hi0, hz0, hz1, hz2⟩ := info_parts3
  rcases hsrc with ⟨rfl, rfl, rfl⟩ | ⟨a, rfl, hc⟩
  · have : news = [] := by cases news with | nil => rfl | cons a l => simp at hl
    subst this
    refine ⟨v, w, run_append_owned_none (P := Tryz.prog) (w := w) base 30 ty 3 i0 1 Tryz.underlying30 hi0 v k xs hown, by simpa using hown, ?_⟩
    exact ⟨rfl, rfl, rfl, Nat.le_refl _, fun _ _ _ => rfl⟩
  · obtain ⟨v', w', r1, r2, r3, _⟩ := run_append_own (P := Tryz.prog) (w := w) base 30 ty 3 i0 (.int .i64 0) 1 8 Tryz.underlying30 hi0 hz0 hz1 hz2 rfl (by decide) v k xs hown a m c news hl hc h1 (by unfold maxLen; omega) (by omega) hb
    exact ⟨v', w', r1, r2, r3⟩
theorem app_prc {w : World} {base : Nat} {v : Value} {k : Nat} {xs : List Value} (hown : w.ownsRow base 56 4 v k xs) (x : Option Addr) (m c : Nat) (news : List Value) (hl : news.length = m * 4)
    (hsrc : (x = none ∧ m = 0 ∧ c = 0) ∨ ∃ a, x = some a ∧ ∀ j u, news[j]? = some u → w.cell? (a.add j) = some u) (h1 : ∀ u ∈ news, u.oneCell' = true) (hk : k + m ≤ 200000) (hb : base ≤ w.heap.size) (ty : TypeId) :
    ∃ v' w', (Builtin.append_ #[74, 74] ty #[v, .slice x m c]).run Tryz.prog w = .ok v' w' ∧ w'.ownsRow base 56 4 v' (k + m) (xs ++ news) ∧ w.grownBy w' v.ownBlock := by
  obtain ⟨i0, hi0, hz0, hz1, hz2⟩ := info_price
  rcases hsrc with ⟨rfl, rfl, rfl⟩ | ⟨a, rfl, hc⟩
  · have : news = [] := by cases news with | nil => rfl | cons a l => simp at hl
    subst this
    refine ⟨v, w, run_append_owned_none (P := Tryz.prog) (w := w) base 74 ty 56 i0 4 Tryz.underlying74 hi0 v k xs hown, by simpa using hown, ?_⟩
    exact ⟨rfl, rfl, rfl, Nat.le_refl _, fun _ _ _ => rfl⟩
  · obtain ⟨v', w', r1, r2, r3, _⟩ := run_append_own (P := Tryz.prog) (w := w) base 74 ty 56 i0 (.agg #[.bool false, .int .i64 0, .int .i64 0, .slice none 0 0]) 4 48 Tryz.underlying74 hi0 hz0 hz1 hz2 rfl (by decide) v k xs hown a m c news hl hc h1 (by unfold maxLen; omega) (by omega) hb
    exact ⟨v', w', r1, r2, r3⟩
theorem wpList_appG {P : Program} {t : TypeId} (w : World) {ops : Array Oper} {rest : List Oper} {o : Oper} {a : Act} {Q : Exit → Act → World → Prop} (hg : o.guard = none) (s x : Operand)
    (hop : o.op = Op.call { callee := Callee.builtin Builtin.append, args := #[s, x], argTypes := #[t, t] }) (ht : o.type = t) (v x' v' : Value) (w' : World) (hs : a.eval s = v) (hx : a.eval x = x')
    (hrun : (Builtin.append_ #[t, t] t #[v, x']).run P w = .ok v' w') (hK : wpList P ops Q rest (a.put o.dst v') w') : wpList P ops Q (o :: rest) a w := by
  refine wpList_plain hg fun K hK' => ?_
  unfold Oper.wp
  simp [execOp, hop, ht, resolve, invoke, builtin, hs, hx, hrun, Result.andThen]
  exact hK' _ _ hK
/-- What a row of one's own reads like. -/
theorem row_src {W : World} {b : Nat} {e : TypeId} {sz n c : Nat} {x : Option Addr} {xs : List Value} (h : W.ownsRow b e sz (.slice x n c) n xs) (hn : 0 < n) : ∃ g, x = some ⟨g, 0, none⟩ ∧ b ≤ g ∧ g < W.heap.size ∧ n ≤ c ∧ ∀ j u, xs[j]? = some u → W.cell? ⟨g, j, none⟩ = some u := by
  have hh := h
  rcases h.2 with ⟨hv, h0⟩ | ⟨g, cap, cur, hv, hge, hg, hnc, _⟩
  · omega
  · obtain ⟨rfl, rfl⟩ : x = some ⟨g, 0, none⟩ ∧ c = cap := by simpa using hv
    refine ⟨g, rfl, hge, (Array.getElem?_eq_some_iff.1 hg).1, hnc, fun j u hu => ?_⟩
    have := hh.cells rfl j u hu
    rwa [addr0] at this
theorem empty_row (W : World) (e : TypeId) (sz : Nat) : (W.alloc (.cells #[] e)).ownsRow W.heap.size e sz (.slice (some ⟨W.heap.size, 0, none⟩) 0 0) 0 [] :=
  ⟨by simp, .inr ⟨W.heap.size, 0, #[], rfl, Nat.le_refl _, heap_alloc_new _ _, Nat.le_refl _, by unfold maxLen; omega, by simp, by simp⟩⟩
theorem kAt_is {l : List Plc} {p : Plc} {j : Nat} : ∀ n, j ≤ n → (∀ t, j ≤ t → t < n → drr (l.getD t (0, 0, 0)) p = true) → (j = 0 ∨ drr (l.getD (j - 1) (0, 0, 0)) p = false) → kAt l p n = j
  | 0, h, _, _ => by have : j = 0 := by omega
                     subst this; rfl
  | n + 1, h, h2, h3 => by
    unfold kAt
    by_cases e : j = n + 1
    · subst e
      rcases h3 with q | q
      · omega
      · rw [Nat.add_sub_cancel] at q
        rw [q, if_neg (by simp)]
    · rw [h2 n (by omega) (by omega), if_pos rfl]
      exact kAt_is n (by omega) (fun t a b => h2 t a (by omega)) h3
set_option maxHeartbeats 2000000 in
theorem rdearer (o1 o2 : Bool) (r1 g1 r2 g2 : Nat) (x1 x2 : Option Addr) (n1 k1 n2 k2 : Nat) (w : World) : Calls Tryz.prog 49 #[.agg #[.bool o1, .int .i64 r1, .int .i64 g1, .slice x1 n1 k1], .agg #[.bool o2, .int .i64 r2, .int .i64 g2, .slice x2 n2 k2]] w fun e w' => e = .returned (.bool (decide (r1 > r2 ∨ r1 = r2 ∧ g1 > g2))) ∧ Below w.heap.size w w' := by
  obtain ⟨V, hV⟩ : ∃ V, V = decide (r1 > r2 ∨ r1 = r2 ∧ g1 > g2) := ⟨_, rfl⟩
  have HBL : Hid (∀ a b, Below w.heap.size w ((w.alloc a).alloc b)) := Lib.hid (fun a b => ((Below.refl _ _).alloc (Nat.le_refl _) a).alloc (by simp) b)
  rw [← hV]
  by_cases a1 : r2 < r1
  · have HV : Hid (V = true) := Lib.hid (by rw [hV]; exact decide_eq_true (.inl a1))
    have i1 : (r2 : Int) < (r1 : Int) := by omega
    clear hV
    go_enter Tryz.func49, Tryz.ntmps49
    go_wp2
    go_ret
    exact ⟨ret_bool HV.out.symm, HBL.out _ _⟩
  · have i1 : ¬ (r2 : Int) < (r1 : Int) := by omega
    by_cases a2 : r1 = r2
    · have i2 : ((r1 : Int) == (r2 : Int)) = true := by rw [beq_iff_eq]; omega
      by_cases a3 : g2 < g1
      · have HV : Hid (V = true) := Lib.hid (by rw [hV]; exact decide_eq_true (.inr ⟨a2, a3⟩))
        have i3 : (g2 : Int) < (g1 : Int) := by omega
        clear hV a2
        go_enter Tryz.func49, Tryz.ntmps49
        go_wp2
        go_ret
        exact ⟨ret_bool HV.out.symm, HBL.out _ _⟩
      · have HV : Hid (V = false) := Lib.hid (by rw [hV]; exact decide_eq_false (by omega))
        have i3 : ¬ (g2 : Int) < (g1 : Int) := by omega
        clear hV a2
        go_enter Tryz.func49, Tryz.ntmps49
        go_wp2
        go_ret
        exact ⟨ret_bool HV.out.symm, HBL.out _ _⟩
    · have HV : Hid (V = false) := Lib.hid (by rw [hV]; exact decide_eq_false (by omega))
      have i2 : ((r1 : Int) == (r2 : Int)) = false := by rw [beq_eq_false_iff_ne]; omega
      clear hV a2
      go_enter Tryz.func49, Tryz.ntmps49
      go_wp2
      go_ret
      exact ⟨ret_bool HV.out.symm, HBL.out _ _⟩
end Go.Proofs.YtdehjofmangmbaaGreat
