/- Own texts, merged: FM. -/
import Derived.Test.YtdehjofmangmbaaGreatMS41
/- Walks: Marks of both sides. -/
namespace Go.Proofs.YtdehjofmangmbaaGreat
open Go.RowKit Go.Shelf
theorem mks_none {a b : Bs} (h : ksS a b = none) : mksS a b = [] := by
  unfold mksS
  unfold ksS at h
  rw [h]
theorem mks_some {a b : Bs} {f : Fnd} (h : ksS a b = some f) : mksS a b = (List.range (clS a).length).filter (fun i => f.at_.contains i) := by
  unfold mksS
  unfold ksS at h
  rw [h]
/-- Which of so many places a row holds. -/
def mkL (l : List Nat) (n : Nat) : List Nat := (List.range n).filter (fun i => l.contains i)
theorem mks_any (a b : Bs) : mksS a b = mkL (fnd0 (ksS a b)).at_ (clS a).length := by
  cases h : ksS a b with
  | none => rw [mks_none h]; simp [fnd0, mkL]
  | some f => rw [mks_some h]; rfl
def MkEnd (a b : Bs) (w : World) (e : Ending) (w' : World) : Prop := ∃ v, e = .returned v ∧ IntV w' v (mksS a b) ∧ Below w.heap.size w w'
set_option maxRecDepth 100000 in
set_option maxHeartbeats 1500000 in
theorem wmarksF (a b : Bs) (ha : a.length ≤ 10000) (hb : b.length ≤ 10000) (w : World) : Calls Tryz.prog 18 #[.string (tx a), .string (tx b)] w (MkEnd a b w) := by
  unfold MkEnd
  rw [mks_any]
  have HA := Lib.hid (fun W => (wcl a ha W).mono fun e W' h => h.view ha)
  have HB := Lib.hid (fun W => wwords b hb W)
  unfold WdEnd at HB
  have hla := clS_len a
  have hlb := wds_len b
  have hlb2 := clS_len b
  have HF := Lib.hid (fun v1 v2 W (h1 : TxV W v1 (clS a)) (h2 : RowsV W v2 (wds b)) => wkept v1 v2 (clS a) (wds b) (clS_ne a) (wds_ne b) (by omega) (by omega) W h1 h2)
  unfold FndEnd at HF
  have HR : Hid (kepS (clS a) (wds b) = ksS a b) := Lib.hid rfl
  rw [HR.out] at HF
  have HBD : Hid ((fnd0 (ksS a b)).at_.length ≤ 490000000000 ∧ ∀ x ∈ (fnd0 (ksS a b)).at_, x < (clS a).length) := Lib.hid (by
    cases h : ksS a b with
    | none => exact ⟨by simp [fnd0], by simp [fnd0]⟩
    | some f => have := ks_bd ha hb h; exact ⟨this.2.2.1, this.2.2.2⟩)
  generalize ksS a b = R at HF HBD ⊢
  generalize (clS a).length = n at HBD ⊢
  generalize tx a = TA at HA ⊢
  generalize tx b = TB at HB ⊢
  clear HR ha hb hla hlb hlb2
  go_enter Tryz.func18, Tryz.ntmps18
  go_wp2_with (first | (go_at_call 30; fail))
  refine (HA.out w).mono ?_
  rintro e w1 ⟨v1, rfl, h1, hb1⟩
  have HV1 := Lib.hid h1
  have HB1 := Lib.hid hb1
  obtain ⟨x1, c1, rfl, _⟩ := h1.old
  clear h1 hb1
  go_wp2_with (first | (go_at_call 35; fail))
  refine (HB.out w1).mono ?_
  rintro e w2 ⟨v2, rfl, h2, hb2⟩
  have HV2 := Lib.hid h2
  have HV1' := Lib.hid (HV1.out.below hb2)
  have HB2 := Lib.hid (HB1.out.trans (below_le hb2 HB1.out.size))
  obtain ⟨x2, c2, rfl, _⟩ := h2
  clear hb2
  go_wp2_with (first | (go_at_call 38; fail))
  refine (HF.out _ _ w2 HV1'.out HV2.out).mono ?_
  rintro e w3 ⟨v3, rfl, hv3, hb3⟩
  obtain ⟨x3, c3, rfl, hI3⟩ := hv3.parts
  have HSZ : Hid (w.heap.size ≤ w2.heap.size) := Lib.hid HB2.out.size
  have HB3 := Lib.hid (HB2.out.trans (below_le hb3 HB2.out.size))
  have HI4 : Hid (IntO w.heap.size (w3.alloc (.cells #[.int .i64 (fnd0 R).rank, .int .i64 (fnd0 R).gaps, .slice x3 (fnd0 R).at_.length c3] 43)) (.slice x3 (fnd0 R).at_.length c3) (fnd0 R).at_) := Lib.hid ((hI3.mono HSZ.out).below ((Below.refl _ _).alloc (Nat.le_refl _) _))
  have HC4 : Hid (C3 43 (w3.alloc (.cells #[.int .i64 (fnd0 R).rank, .int .i64 (fnd0 R).gaps, .slice x3 (fnd0 R).at_.length c3] 43)) w3.heap.size (.int .i64 (fnd0 R).rank) (.int .i64 (fnd0 R).gaps) (.slice x3 (fnd0 R).at_.length c3)) := Lib.hid (heap_alloc_new _ _)
  have HB4 := Lib.hid (HB3.out.alloc HB3.out.size (.cells #[.int .i64 (fnd0 R).rank, .int .i64 (fnd0 R).gaps, .slice x3 (fnd0 R).at_.length c3] 43))
  clear hv3 hb3 hI3 HB3
  go_upto_region 2 with (fail)
  generalize (w3.alloc (.cells #[.int .i64 (fnd0 R).rank, .int .i64 (fnd0 R).gaps, .slice x3 (fnd0 R).at_.length c3] 43)) = W4 at HI4 HC4 HB4 ⊢
  generalize w3.heap.size = fb at HC4 ⊢
  obtain ⟨_, _, e2, _, _, _⟩ := HC4.out.cells
  have HSO := Lib.hid (wsorti HI4.out HBD.out.1 HB4.out.size)
  have HNR := Lib.hid (C3.not_row HC4.out (by decide) HI4.out)
  go_wp2_with (first | (go_at_call 40; fail))
  refine HSO.out.mono ?_
  rintro e w5 ⟨rfl, hb5, hk5, h5⟩
  have HB5 := Lib.hid (HB4.out.trans hb5)
  obtain ⟨_, _, e5, _, _, _⟩ := (HC4.out.kept (hk5 fb HC4.out.lt HNR.out)).cells
  have HK5 := Lib.hid h5
  have HSZ5 := Lib.hid hb5.size
  clear HSO hb5 hk5 h5 e2
  have HCO : Hid (Calls Tryz.prog 41 #[.slice x3 (fnd0 R).at_.length c3] w5 fun e w' => ∃ v, e = .returned v ∧ IntV w' v (mkL (fnd0 R).at_ n) ∧ Below w.heap.size w5 w') := Lib.hid (by
    by_cases h0 : (fnd0 R).at_ = []
    · rw [h0]
      refine (Tryz.slices_Compact_int_empty x3 c3 w5).mono ?_
      rintro e w' ⟨rfl, rfl⟩
      have e : mkL [] n = [] := by simp [mkL]
      rw [e]
      exact ⟨_, rfl, ⟨x3, c3, rfl, by simp, fun q => absurd rfl q⟩, Below.refl _ _⟩
    · obtain ⟨q, rfl, hq1, hq2, hq3, hH⟩ := HK5.out h0
      exact wcompi hH HBD.out.1 hq3 hq2 (by have := HSZ5.out; omega) HB5.out.size HBD.out.2)
  clear HK5
  go_wp2_with (first | (go_at_call 41; fail))
  refine HCO.out.mono ?_
  rintro e w6 ⟨v6, rfl, hv6, hb6⟩
  have HV6 := Lib.hid (And.intro hv6 (HB5.out.trans hb6))
  clear hv6 hb6 HCO
  go_wp2
  go_ret
  exact ⟨_, rfl, HV6.out.1, HV6.out.2⟩
/-- A row of truths that may be read. -/
def BoolV (W : World) (x : Option Addr) (bs : List Bool) : Prop := bs ≠ [] → ∃ g, x = some ⟨g, 0, none⟩ ∧ BoolAt W g bs
theorem prO_marks {b n : Nat} {W : World} {v : Value} {r : Option Fnd} (h : PrO b W v n r) : ∃ (s : Bool) (x : Option Addr) (bs : List Bool), v = .agg #[.bool s, .int .i64 (fnd0 r).rank, .int .i64 (fnd0 r).gaps, .slice x bs.length bs.length] ∧ BoolV W x bs ∧ bs.length ≤ n ∧ ∀ i, bs.getD i false = (decide (i < n) && (fnd0 r).at_.contains i) := by
  cases r with
  | none => exact ⟨false, none, [], h, fun q => absurd rfl q, by simp, fun i => by simp [fnd0]⟩
  | some f =>
    obtain ⟨g, rfl, _, hB⟩ := h
    refine ⟨true, some ⟨g, 0, none⟩, mkB f.at_ n, by rw [mkB_len]; rfl, fun _ => ⟨g, rfl, hB⟩, by rw [mkB_len]; exact Nat.le_refl _, fun i => ?_⟩
    by_cases hi : i < n
    · rw [List.getD_eq_getElem?_getD, List.getElem?_eq_getElem (by rw [mkB_len]; exact hi), decide_eq_true hi]
      simp [mkB, fnd0]
    · rw [List.getD_eq_getElem?_getD, List.getElem?_eq_none (by rw [mkB_len]; omega), decide_eq_false hi]
      rfl
/-- The places ahead of one that are marked. -/
def mkU (bs : List Bool) (k : Nat) : List Nat := (List.range k).filter (fun i => bs.getD i false)
theorem mkU_succ (bs : List Bool) (k : Nat) : mkU bs (k + 1) = if bs.getD k false = true then mkU bs k ++ [k] else mkU bs k := by
  unfold mkU
  rw [List.range_succ, List.filter_append]
  split
  · rename_i h
    rw [List.getD_eq_getElem?_getD] at h
    simp [h]
  · rename_i h
    rw [List.getD_eq_getElem?_getD] at h
    simp [h]
theorem mkU_all {bs : List Bool} {n : Nat} {l : List Nat} (hl : bs.length ≤ n) (h : ∀ i, bs.getD i false = (decide (i < n) && l.contains i)) : mkU bs bs.length = mkL l n := by
  have e : mkU bs n = mkL l n := by
    unfold mkU mkL
    refine List.filter_congr (fun i hi => ?_)
    rw [h i, decide_eq_true (List.mem_range.1 hi), Bool.true_and]
  rw [← e]
  have : ∀ d, mkU bs (bs.length + d) = mkU bs bs.length := by
    intro d
    induction d with
    | zero => rfl
    | succ d ih =>
      rw [← Nat.add_assoc, mkU_succ, if_neg, ih]
      rw [List.getD_eq_getElem?_getD, List.getElem?_eq_none (by omega)]
      simp
  have := this (n - bs.length)
  rw [← this]
  congr 1
  omega
theorem mkU_len (bs : List Bool) (k : Nat) : (mkU bs k).length ≤ k := by
  have := List.length_filter_le (fun i => bs.getD i false) (List.range k)
  rw [List.length_range] at this
  exact this
set_option maxRecDepth 100000 in
set_option maxHeartbeats 1500000 in
theorem rmarksF (a b : Bs) (ha : a.length ≤ 10000) (hb : b.length ≤ 200) (w : World) : Calls Tryz.prog 20 #[.string (tx a), .string (tx b)] w (MkEnd a b w) := by
  unfold MkEnd
  rw [mks_any]
  have HB := Lib.hid (fun W => rWords b (by omega) W)
  unfold WrdEnd at HB
  have hlb := wds_len b
  have hlb2 := clS_len b
  have hla := clS_len a
  have HF := Lib.hid (fun v2 W (h2 : TxV W v2 ((wds b).map List.flatten)) => rprice a (wds b) v2 ha (wds_ok b hb) (by omega) W h2)
  unfold PrEnd at HF
  have HR : Hid (kepS (clS a) (wds b) = ksS a b) := Lib.hid rfl
  have HL : Hid (((wds b).map List.flatten).length ≤ 1000000) := Lib.hid (by rw [List.length_map]; omega)
  rw [HR.out] at HF
  have hn6 : (clS a).length ≤ 700000 := by omega
  obtain ⟨i3, hi, hi0, hi1, hi2⟩ := info_parts3
  have HP := Lib.hid (And.intro hi (And.intro hi0 (And.intro hi1 hi2)))
  generalize ksS a b = R at HF ⊢
  generalize (clS a).length = n at HF hn6 ⊢
  generalize tx a = TA at HF ⊢
  generalize tx b = TB at HB ⊢
  rw [← List.length_map (f := List.flatten)] at HB
  generalize (wds b).map List.flatten = ws at HB HF HL
  clear HR ha hb hlb hlb2 hla hi hi0 hi1 hi2
  go_enter Tryz.func20, Tryz.ntmps20
  go_wp2_with (first | (go_at_call 14; fail))
  refine (HB.out w).mono ?_
  rintro e w1 ⟨v1, rfl, h1, hb1⟩
  have h2 := TxV.of_row h1 HL.out
  have HV1 := Lib.hid h2
  have HB1 := Lib.hid hb1
  obtain ⟨x1, c1, rfl, _⟩ := h2.old
  clear h1 h2 hb1
  go_wp2_with (first | (go_at_call 39; fail))
  refine (HF.out _ w1 HV1.out).mono ?_
  rintro e w3 ⟨v3, rfl, hv3, hb3⟩
  obtain ⟨s, x3, bs, rfl, hbv, hbl, hbg⟩ := prO_marks hv3
  have HM := Lib.hid (mkU_all hbl hbg)
  have hb9 : bs.length ≤ 700000 := by omega
  have HB3 := Lib.hid (HB1.out.trans (below_le hb3 HB1.out.size))
  have HC4 : Hid (C4 56 (w3.alloc (.cells #[.bool s, .int .i64 (fnd0 R).rank, .int .i64 (fnd0 R).gaps, .slice x3 bs.length bs.length] 56)) w3.heap.size (.bool s) (.int .i64 (fnd0 R).rank) (.int .i64 (fnd0 R).gaps) (.slice x3 bs.length bs.length)) := Lib.hid (heap_alloc_new _ _)
  have HBV : Hid (BoolV (w3.alloc (.cells #[.bool s, .int .i64 (fnd0 R).rank, .int .i64 (fnd0 R).gaps, .slice x3 bs.length bs.length] 56)) x3 bs) := Lib.hid (fun hne => by
    obtain ⟨g, e, hB⟩ := hbv hne
    exact ⟨g, e, hB.below ((Below.refl _ _).alloc (Nat.le_refl _) _)⟩)
  have HB4 := Lib.hid (HB3.out.alloc HB3.out.size (.cells #[.bool s, .int .i64 (fnd0 R).rank, .int .i64 (fnd0 R).gaps, .slice x3 bs.length bs.length] 56))
  clear hv3 hb3 hbv hbl hbg HB3 hn6
  go_wp2
  generalize (w3.alloc (.cells #[.bool s, .int .i64 (fnd0 R).rank, .int .i64 (fnd0 R).gaps, .slice x3 bs.length bs.length] 56)) = W4 at HBV HC4 HB4 ⊢
  generalize w3.heap.size = fb at HC4 ⊢
  go_loopw [6, 7] (fun v i wr => ∃ k : Nat, i = .int .i64 (k : Int) ∧ k ≤ bs.length ∧ Hid (IntO W4.heap.size wr v (mkU bs k)) ∧ Hid (Below W4.heap.size W4 wr)) (fun _ i _ => bs.length - (intOf i).toNat)
  case atStart => exact ⟨0, rfl, Nat.zero_le _, Lib.hid (IntO.nil _ _), Lib.hid (Below.refl _ _)⟩
  case round =>
    obtain ⟨k, rfl, hk, HO, HBB⟩ := hrel
    obtain ⟨x, c, rfl⟩ := HO.out.is
    have i1 : (0 : Int) ≤ (k : Int) := by omega
    obtain ⟨_, _, _, e3⟩ := (HC4.out.below HBB.out).cells
    by_cases hlt : k < bs.length
    · have i2 : (k : Int) < (bs.length : Int) := by omega
      obtain ⟨g, hx3, hBA⟩ := HBV.out (List.ne_nil_of_length_pos (by omega))
      subst hx3
      obtain ⟨hc, _⟩ := (hBA.below HBB.out).get k hlt
      have HMU := Lib.hid (mkU_succ bs k)
      have hml := mkU_len bs k
      have hbs := HBB.out.size
      cases hv : bs.getD k false with
      | false =>
        rw [hv] at hc
        have HO2 : Hid (IntO W4.heap.size wr (.slice x (mkU bs k).length c) (mkU bs (k + 1))) := Lib.hid (by rw [HMU.out, hv]; exact HO.out)
        clear hBA HMU hv HO
        go_wp2
        go_roundw
        case rel => exact ⟨k + 1, by go_num, by omega, HO2, HBB⟩
        case measure => simp [intOf]; omega
      | true =>
        rw [hv] at hc
        have HO2 : Hid (mkU bs (k + 1) = mkU bs k ++ [k]) := Lib.hid (by rw [HMU.out, hv]; rfl)
        clear hBA HMU hv
        go_wp2_with (at_builtin; go_loud (refine wpList_append_own _ rfl _ _ 30 rfl W4.heap.size 3 i3 (.int .i64 0) 1 8 Tryz.underlying30 HP.out.1 HP.out.2.1 HP.out.2.2.1 HP.out.2.2.2 rfl (by decide) _ _ _ rfl (HO.out.alloc _) ⟨wr.heap.size, 0, none⟩ 1 1 [.int .i64 (k : Int)] rfl rfl (cell_one_new _ _ _) (by simp [Value.oneCell']) (by unfold maxLen; omega) (by omega) (by simp; omega) ?_))
        intro v' w4 ho hg4 _
        have HO4 : Hid (IntO W4.heap.size w4 v' (mkU bs (k + 1))) := Lib.hid (by rw [HO2.out]; unfold IntO; rw [ints_app, List.length_append]; exact ho)
        have HB5 : Hid (Below W4.heap.size W4 w4) := Lib.hid ((HBB.out.alloc hbs _).grown hg4 (by simp; omega) (fun k e => (HO.out.lt k e).1))
        clear ho hg4
        go_wp2
        go_roundw
        case rel => exact ⟨k + 1, by go_num, by omega, HO4, HB5⟩
        case measure => simp [intOf]; omega
    · obtain rfl : k = bs.length := by omega
      have i2 : ¬ (bs.length : Int) < (bs.length : Int) := by omega
      have HVI := Lib.hid (And.intro HO.out.view (HB4.out.trans (below_le HBB.out HB4.out.size)))
      have HVJ : Hid (∃ v, v = Value.slice x (mkU bs bs.length).length c ∧ IntV wr v (mkL (fnd0 R).at_ n)) := Lib.hid ⟨_, rfl, by have h := HVI.out.1; rw [HM.out] at h ⊢; exact h⟩
      clear HO HBB
      go_wp2
      go_ret
      obtain ⟨v, rfl, hv⟩ := HVJ.out
      exact ⟨_, rfl, hv, HVI.out.2⟩
end Go.Proofs.YtdehjofmangmbaaGreat
