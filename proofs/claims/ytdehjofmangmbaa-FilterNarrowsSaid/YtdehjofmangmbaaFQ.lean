/- Walks: Sieve. -/
import Derived.Test.YtdehjofmangmbaaFO
namespace Go.Proofs.Ytdehjofmangmbaa
open Go.RowKit Go.Shelf
theorem addr0 (q j : Nat) : (⟨q, 0, none⟩ : Addr).add j = ⟨q, j, none⟩ := by by_cases e : j = 0 <;> simp [Addr.add, e]
theorem cells_four (w : World) (a b c d : Value) (T : TypeId) : ∀ j x, [a, b, c, d][j]? = some x → (w.alloc (.cells #[a, b, c, d] T)).cell? ((⟨w.heap.size, 0, none⟩ : Addr).add j) = some x := fun j x h => by
  rw [addr0]
  have hh := heap_alloc_new w (.cells #[a, b, c, d] T)
  match j, h with
  | 0, h => cases h; unfold World.cell?; simp only; rw [hh]; rfl
  | 1, h => cases h; unfold World.cell?; simp only; rw [hh]; rfl
  | 2, h => cases h; unfold World.cell?; simp only; rw [hh]; rfl
  | 3, h => cases h; unfold World.cell?; simp only; rw [hh]; rfl
  | j + 4, h => cases h
/-- The places of the first options. -/
def idx (L : List PlV) (k : Nat) : List Nat := (L.take k).map (·.i)
theorem idx_len (L : List PlV) (k : Nat) (hk : k ≤ L.length) : (idx L k).length = k := by unfold idx; simp; omega
def SvEnd (l : List Nat) (w : World) (e : Ending) (w' : World) : Prop := ∃ v, e = .returned v ∧ IntO w.heap.size w' v l ∧ Below w.heap.size w w'
set_option maxRecDepth 100000 in
set_option maxHeartbeats 3000000 in
theorem wsieve (q : Bs) (vo : Value) (opts : List Bs) (hq : q.length ≤ 10000) (ho : ∀ s ∈ opts, s.length ≤ 10000) (w : World) (h1 : TxV w vo opts) : Calls Try.prog 7 #[.string (tx q), vo] w (SvEnd (sieT q opts) w) := by
  unfold SvEnd
  have HST : Hid (sieT q opts = (sieQ (wds q) opts).map (·.2.2)) := Lib.hid rfl
  rw [HST.out]
  have HB := Lib.hid (fun W => wwords q hq W)
  unfold WdEnd at HB
  have hlb := wds_len q
  have hlb2 := clS_len q
  have HKD : Hid (∀ s ∈ opts, ∀ f, kepS (clS s) (wds q) = some f → f.rank ≤ 2800000 ∧ f.gaps ≤ 490000000000 ∧ f.at_.length ≤ 490000000000) := Lib.hid (fun s hs f hf => by
    have := ks_bd (a := s) (b := q) (ho s hs) hq hf
    exact ⟨this.1, this.2.1, this.2.2.1⟩)
  have HCU := Lib.hid (fun (s : Bs) (hs : s ∈ opts) (W : World) => (wcl s (ho s hs) W).mono fun e W' h => h.view (ho s hs))
  have HKE := Lib.hid (fun (s : Bs) (hs : s ∈ opts) v1 v2 W (h1 : TxV W v1 (clS s)) (h2 : RowsV W v2 (wds q)) => wkept v1 v2 (clS s) (wds q) (clS_ne s) (wds_ne q) (by have := clS_len s; have := ho s hs; omega) (by omega) W h1 h2)
  unfold FndEnd at HKE
  generalize wds q = ws at HB HKD HKE ⊢
  generalize tx q = TQ at HB ⊢
  obtain ⟨xo, co, rfl, hoc, ho6, hog⟩ := h1.old
  have HG := Lib.hid hog
  obtain ⟨n, hn⟩ : ∃ n, n = opts.length := ⟨_, rfl⟩
  have HN := Lib.hid hn
  obtain ⟨i0, hi, hi0, hi1, hi2⟩ := info_place
  have HII := Lib.hid (And.intro hi (And.intro hi0 (And.intro hi1 hi2)))
  obtain ⟨i3, hj, hj0, hj1, hj2⟩ := info_parts3
  have HPP := Lib.hid (And.intro hj (And.intro hj0 (And.intro hj1 hj2)))
  rw [← hn] at hoc ho6 ⊢
  clear h1 hn hog hlb hlb2 hq ho HST hi hi0 hi1 hi2 hj hj0 hj1 hj2
  go_enter Try.func7, Try.ntmps7
  go_wp2_with (first | (go_at_call 11; fail))
  refine (HB.out w).mono ?_
  rintro e w1 ⟨v1, rfl, h1, hb1⟩
  have HV1 := Lib.hid h1
  have HB1 := Lib.hid hb1
  obtain ⟨x1, c1, rfl, _⟩ := h1
  clear hb1 HB
  go_wp2
  go_loopw [6, 18] (fun v i wr => ∃ (k : Nat) (L : List PlV), i = .int .i64 (k : Int) ∧ k ≤ n ∧ L.length ≤ k ∧ Hid (L.map PlV.p = plcN ws opts k) ∧ Hid (wr.ownsRow w1.heap.size 40 4 v L.length (plvs L)) ∧ Hid (Below w1.heap.size w1 wr)) (fun _ i _ => n - (intOf i).toNat)
  case atStart => exact ⟨0, [], rfl, Nat.zero_le _, Nat.le_refl _, Lib.hid rfl, Lib.hid (World.ownsRow_nil _ _ _ _), Lib.hid (Below.refl _ _)⟩
  case round =>
    obtain ⟨k, L, rfl, hk, hLk, HL, HO, HBB⟩ := hrel
    obtain ⟨x, c, rfl⟩ := ownsRow_is HO.out
    have i1 : (0 : Int) ≤ (k : Int) := by omega
    by_cases hlt : k < n
    · have i2 : (k : Int) < (n : Int) := by omega
      have hkl : k < opts.length := by have := HN.out; omega
      obtain ⟨go, oo, rfl, hgo, hget⟩ := HG.out (List.ne_nil_of_length_pos (by omega))
      have ce : wr.cell? ⟨go, oo + k, none⟩ = some (.string (tx (opts.getD k []))) := (HBB.out.cell (p := ⟨go, oo + k, none⟩) (Nat.lt_of_lt_of_le hgo HB1.out.size)).trans ((HB1.out.cell (p := ⟨go, oo + k, none⟩) hgo).trans (hget k hkl))
      have hmem : opts.getD k [] ∈ opts := by rw [List.getD_eq_getElem?_getD, List.getElem?_eq_getElem hkl]; exact List.getElem_mem _
      have HCK := Lib.hid (fun W => HCU.out _ hmem W)
      have HKK := Lib.hid (fun v1 v2 W h1 h2 => HKE.out _ hmem v1 v2 W h1 h2)
      have HBK := Lib.hid (fun f hf => HKD.out _ hmem f hf)
      have HPS := Lib.hid (plcN_succ ws opts k)
      generalize opts.getD k [] = s at ce HCK HKK HBK HPS
      generalize tx s = TS at ce HCK
      clear hget hmem hkl
      go_wp2_with (first | (go_at_call 10; fail))
      refine (HCK.out wr).mono ?_
      rintro e w2 ⟨v2, rfl, h2, hb2⟩
      have HV2 := Lib.hid h2
      have HBC := Lib.hid (HBB.out.trans (below_le hb2 HBB.out.size))
      have HO2 := Lib.hid (row_kept HO.out (fun j hj => hb2.block j (HO.out.lt j hj).2))
      have HW2 := Lib.hid (HV1.out.below HBC.out)
      obtain ⟨x2, c2, rfl, _⟩ := h2.old
      clear h2 hb2 HBB HO ce
      go_wp2_with (first | (go_at_call 9; fail))
      refine (HKK.out _ _ w2 HV2.out HW2.out).mono ?_
      rintro e w3 ⟨v3, rfl, hv3, hb3⟩
      obtain ⟨x3, c3, rfl, _⟩ := hv3.parts
      have HBD := Lib.hid ((HBC.out.trans (below_le hb3 HBC.out.size)).alloc (HBC.out.trans (below_le hb3 HBC.out.size)).size (.cells #[.int .i64 (fnd0 (kepS (clS s) ws)).rank, .int .i64 (fnd0 (kepS (clS s) ws)).gaps, .slice x3 (fnd0 (kepS (clS s) ws)).at_.length c3] 32))
      have HO3 := Lib.hid ((row_kept HO2.out (fun j hj => hb3.block j (HO2.out.lt j hj).2)).alloc (.cells #[.int .i64 (fnd0 (kepS (clS s) ws)).rank, .int .i64 (fnd0 (kepS (clS s) ws)).gaps, .slice x3 (fnd0 (kepS (clS s) ws)).at_.length c3] 32))
      have HC3 : Hid (C3 32 (w3.alloc (.cells #[.int .i64 (fnd0 (kepS (clS s) ws)).rank, .int .i64 (fnd0 (kepS (clS s) ws)).gaps, .slice x3 (fnd0 (kepS (clS s) ws)).at_.length c3] 32)) w3.heap.size (.int .i64 (fnd0 (kepS (clS s) ws)).rank) (.int .i64 (fnd0 (kepS (clS s) ws)).gaps) (.slice x3 (fnd0 (kepS (clS s) ws)).at_.length c3)) := Lib.hid (heap_alloc_new _ _)
      clear hv3 hb3 HBC HO2 HCK HKK HW2 HV2
      go_upto_region 7 with (fail)
      generalize (w3.alloc (.cells #[.int .i64 (fnd0 (kepS (clS s) ws)).rank, .int .i64 (fnd0 (kepS (clS s) ws)).gaps, .slice x3 (fnd0 (kepS (clS s) ws)).at_.length c3] 32)) = W4 at HBD HO3 HC3 ⊢
      generalize w3.heap.size = fb at HC3 ⊢
      cases hR : kepS (clS s) ws with
      | none =>
        have HLN : Hid (L.map PlV.p = plcN ws opts (k + 1)) := Lib.hid (by rw [HPS.out, hR, HL.out]; simp)
        clear HC3 HL HPS hR
        have z1 : (none : Option Fnd).isSome = false := rfl
        go_wp2
        go_roundw
        case rel => exact ⟨k + 1, L, by go_num, by omega, by omega, HLN, HO3, HBD⟩
        case measure => simp [intOf]; omega
      | some f =>
        rw [hR] at HC3
        obtain ⟨hf1, hf2, hf3⟩ := HBK.out f hR
        have HC4 : Hid (C3 32 W4 fb (.int .i64 f.rank) (.int .i64 f.gaps) (.slice x3 f.at_.length c3)) := HC3
        obtain ⟨e0, e1, e2, _, _, _⟩ := HC4.out.cells
        obtain ⟨N, hN⟩ : ∃ N : PlV, N = ⟨f.rank, f.gaps, x3, f.at_.length, c3, k, by omega⟩ := ⟨_, rfl⟩
        have HLN : Hid ((L ++ [N]).map PlV.p = plcN ws opts (k + 1)) := Lib.hid (by rw [HPS.out, hR, List.map_append, HL.out, hN]; rfl)
        have HNC : Hid (plvs [N] = [.int .i64 f.rank, .int .i64 f.gaps, .slice x3 f.at_.length c3, .int .i64 (k : Int)]) := Lib.hid (by rw [hN]; rfl)
        clear HC3 HL HPS hR hN
        have z1 : (some f).isSome = true := rfl
        have hbs := HBD.out.size
        go_wp2_with (at_builtin; go_loud (refine wpList_append_own _ rfl _ _ 38 rfl w1.heap.size 40 i0 (.agg #[.int .i64 0, .int .i64 0, .slice none 0 0, .int .i64 0]) 4 48 Try.underlying38 HII.out.1 HII.out.2.1 HII.out.2.2.1 HII.out.2.2.2 rfl (by decide) _ _ _ rfl (HO3.out.alloc _) ⟨W4.heap.size, 0, none⟩ 1 1 [.int .i64 f.rank, .int .i64 f.gaps, .slice x3 f.at_.length c3, .int .i64 (k : Int)] rfl rfl (cells_four W4 _ _ _ _ _) (by simp [Value.oneCell']) (by unfold maxLen; omega) (by omega) (by simp; omega) ?_))
        intro v' w5 ho5 hg5 _
        have HO5 : Hid (w5.ownsRow w1.heap.size 40 4 v' (L ++ [N]).length (plvs (L ++ [N]))) := Lib.hid (by rw [plvs_app, HNC.out, List.length_append]; exact ho5)
        have HB5 : Hid (Below w1.heap.size w1 w5) := Lib.hid ((HBD.out.alloc hbs _).grown hg5 (by simp; omega) (fun k e => (HO3.out.lt k e).1))
        clear ho5 hg5
        go_wp2
        go_roundw
        case rel => exact ⟨k + 1, L ++ [N], by go_num, by omega, by rw [List.length_append]; simp; omega, HLN, HO5, HB5⟩
        case measure => simp [intOf]; omega
    · obtain rfl : k = n := by omega
      have i2 : ¬ (k : Int) < (k : Int) := by omega
      have HPL : Hid (L.map PlV.p = plcs ws opts) := Lib.hid (by rw [HL.out, HN.out]; exact plcN_all ws opts)
      have hL6 : L.length ≤ 1000000 := by omega
      have HSO := Lib.hid (wsortf HO.out hL6 HBB.out.size)
      clear HL
      go_wp2_with (first | (go_at_call 12; fail))
      refine HSO.out.mono ?_
      rintro e w5 ⟨rfl, L', hL', hs⟩
      have HS := Lib.hid hs
      have HBE : Hid (Below w1.heap.size w1 w5) := Lib.hid (by
        rcases hs with ⟨_, rfl, _⟩ | ⟨g, _, _, _, hs⟩
        · exact HBB.out
        · exact HBB.out.trans hs.bel)
      have HBF := Lib.hid (HB1.out.trans (below_le HBE.out HB1.out.size))
      have HRS : Hid (L'.map PlV.p = sieQ ws opts) := Lib.hid (by
        rcases hs with ⟨h1, _, rfl⟩ | ⟨g, _, _, _, hs⟩
        · subst h1
          exact sie_is (by rw [← HPL.out]) (by simp)
        · exact sie_is (by rw [← HPL.out]; exact hs.perm.map _) hs.sort)
      have hnl : L.length = L'.length := hL'.symm
      have HIE : Hid (∀ W, Below w5.heap.size w5 W → ∀ j, (hj : j < L'.length) → ∃ g, x = some ⟨g, 0, none⟩ ∧ L'.length ≤ c ∧ W.cell? ⟨g, j * 4, none⟩ = some (.int .i64 L'[j].rk) ∧ W.cell? ⟨g, j * 4 + 1, none⟩ = some (.int .i64 L'[j].gp) ∧ W.cell? ⟨g, j * 4 + 2, none⟩ = some (.slice L'[j].a L'[j].n L'[j].k) ∧ W.cell? ⟨g, j * 4 + 3, none⟩ = some (.int .i64 L'[j].i)) := Lib.hid (fun W hW j hj => by
        rcases HS.out with ⟨_, _, rfl⟩ | ⟨g, e, hg, hgc, hs⟩
        · simp at hj
        · obtain ⟨c0, c1, c2, c3⟩ := hs.cell j hj
          have hgl : g < w5.heap.size := Nat.lt_of_lt_of_le hg hs.bel.size
          exact ⟨g, e, by omega, (hW.cell (p := ⟨g, j * 4, none⟩) hgl).trans c0, (hW.cell (p := ⟨g, j * 4 + 1, none⟩) hgl).trans c1, (hW.cell (p := ⟨g, j * 4 + 2, none⟩) hgl).trans c2, (hW.cell (p := ⟨g, j * 4 + 3, none⟩) hgl).trans c3⟩)
      rw [hnl]
      have HLL : Hid (L'.length ≤ 1000000) := Lib.hid (by omega)
      clear hs HSO HO HBB HS HBE hLk hL6 hL' hnl
      go_wp2
      go_loopw [11, 42] (fun v i wr => ∃ k : Nat, i = .int .i64 (k : Int) ∧ k ≤ L'.length ∧ Hid (IntO w5.heap.size wr v (idx L' k)) ∧ Hid (Below w5.heap.size w5 wr)) (fun _ i _ => L'.length - (intOf i).toNat)
      case atStart => exact ⟨0, rfl, Nat.zero_le _, Lib.hid (IntO.nil _ _), Lib.hid (Below.refl _ _)⟩
      case round =>
        obtain ⟨k, rfl, hk, HO, HBB⟩ := hrel
        obtain ⟨x9, c9, rfl⟩ := HO.out.is
        have i1 : (0 : Int) ≤ (k : Int) := by omega
        by_cases hlt : k < L'.length
        · have i2 : (k : Int) < (L'.length : Int) := by omega
          obtain ⟨g, hxe, hgc, e0, e1, e2, e3⟩ := HIE.out wr HBB.out k hlt
          subst hxe
          have HTK : Hid (idx L' (k + 1) = idx L' k ++ [L'[k].i]) := Lib.hid (by unfold idx; rw [List.take_succ_eq_append_getElem hlt, List.map_append]; rfl)
          have hbi := L'[k].hb
          obtain ⟨hbi1, hbi2, hbi3⟩ := hbi
          generalize L'[k].rk = a0 at e0 hbi1
          generalize L'[k].gp = a1 at e1 hbi2
          generalize L'[k].a = a2 at e2
          generalize L'[k].n = a4 at e2
          generalize L'[k].k = a5 at e2
          generalize L'[k].i = a3 at e3 HTK hbi3
          have hml : (idx L' k).length = k := idx_len _ _ hk
          have hll : L'.length ≤ 1000000 := by have := HLL.out; omega
          have HO2 := Lib.hid (HO.out.below ((Below.refl wr.heap.size wr).alloc (Nat.le_refl _) (.cells #[.int .i64 a0, .int .i64 a1, .slice a2 a4 a5, .int .i64 a3] 40)))
          have HBC := Lib.hid (HBB.out.alloc HBB.out.size (.cells #[.int .i64 a0, .int .i64 a1, .slice a2 a4 a5, .int .i64 a3] 40))
          have HC5 : Hid (C4 40 (wr.alloc (.cells #[.int .i64 a0, .int .i64 a1, .slice a2 a4 a5, .int .i64 a3] 40)) wr.heap.size (.int .i64 a0) (.int .i64 a1) (.slice a2 a4 a5) (.int .i64 a3)) := Lib.hid (heap_alloc_new _ _)
          clear HO HBB
          go_upto_region 15 with (fail)
          generalize (wr.alloc (.cells #[.int .i64 a0, .int .i64 a1, .slice a2 a4 a5, .int .i64 a3] 40)) = W7 at HO2 HBC HC5 ⊢
          generalize wr.heap.size = pb at HC5 ⊢
          obtain ⟨_, _, _, c3⟩ := HC5.out.cells
          have hbs := HBC.out.size
          clear e0 e1 e2 e3
          go_wp2_with (at_builtin; go_loud (refine wpList_append_own _ rfl _ _ 27 rfl w5.heap.size 3 i3 (.int .i64 0) 1 8 Try.underlying27 HPP.out.1 HPP.out.2.1 HPP.out.2.2.1 HPP.out.2.2.2 rfl (by decide) _ _ _ rfl (HO2.out.alloc _) ⟨W7.heap.size, 0, none⟩ 1 1 [.int .i64 (a3 : Int)] rfl rfl (cell_one_new _ _ _) (by simp [Value.oneCell']) (by unfold maxLen; omega) (by omega) (by simp; omega) ?_))
          intro v' w8 ho8 hg8 _
          have HO8 : Hid (IntO w5.heap.size w8 v' (idx L' (k + 1))) := Lib.hid (by rw [HTK.out]; unfold IntO; rw [ints_app, List.length_append, hml]; exact ho8)
          have HB8 : Hid (Below w5.heap.size w5 w8) := Lib.hid ((HBC.out.alloc hbs _).grown hg8 (by simp; omega) (fun k e => (HO2.out.lt k (by rw [hml]; exact e)).1))
          clear ho8 hg8
          go_wp2
          go_roundw
          case rel => exact ⟨k + 1, by go_num, by omega, HO8, HB8⟩
          case measure => simp [intOf]; omega
        · obtain rfl : k = L'.length := by omega
          have i2 : ¬ (L'.length : Int) < (L'.length : Int) := by omega
          have HR : Hid (idx L' L'.length = (sieQ ws opts).map (·.2.2)) := Lib.hid (by unfold idx; rw [List.take_length, ← HRS.out, List.map_map]; rfl)
          have HFI : Hid (∃ v, v = Value.slice x9 (idx L' L'.length).length c9 ∧ IntO w.heap.size wr v ((sieQ ws opts).map (·.2.2)) ∧ Below w.heap.size w wr) := Lib.hid ⟨_, rfl, by have h := HO.out.mono HBF.out.size; rw [HR.out] at h ⊢; exact h, HBF.out.trans (below_le HBB.out HBF.out.size)⟩
          clear HO HBB
          go_wp2
          go_ret
          obtain ⟨v, rfl, hv1, hv2⟩ := HFI.out
          exact ⟨_, rfl, hv1, hv2⟩
end Go.Proofs.Ytdehjofmangmbaa
