/- Walks: Marks of both sides. -/
import Derived.Test.YtdehjofmangmbaaFL
namespace Go.Proofs.Ytdehjofmangmbaa
open Go.RowKit Go.Shelf
theorem mks_none {a b : Bs} (h : ksS a b = none) : mksS a b = [] := by
  unfold mksS
  unfold ksS at h
  rw [h]
theorem mks_some {a b : Bs} {f : Fnd} (h : ksS a b = some f) : mksS a b = (List.range (clS a).length).filter (fun i => f.at_.contains i) := by
  unfold mksS
  unfold ksS at h
  rw [h]
/-- Which of so many places a row holds. -/
def mkL (l : List Nat) (n : Nat) : List Nat := (List.range n).filter (fun i => l.contains i)
theorem mks_any (a b : Bs) : mksS a b = mkL (fnd0 (ksS a b)).at_ (clS a).length := by
  cases h : ksS a b with
  | none => rw [mks_none h]; simp [fnd0, mkL]
  | some f => rw [mks_some h]; rfl
def MkEnd (a b : Bs) (w : World) (e : Ending) (w' : World) : Prop := ∃ v, e = .returned v ∧ IntV w' v (mksS a b) ∧ Below w.heap.size w w'
set_option maxRecDepth 100000 in
set_option maxHeartbeats 1500000 in
theorem wmarksF (a b : Bs) (ha : a.length ≤ 10000) (hb : b.length ≤ 10000) (w : World) : Calls Try.prog 14 #[.string (tx a), .string (tx b)] w (MkEnd a b w) := by
  unfold MkEnd
  rw [mks_any]
  have HA := Lib.hid (fun W => (wcl a ha W).mono fun e W' h => h.view ha)
  have HB := Lib.hid (fun W => wwords b hb W)
  unfold WdEnd at HB
  have hla := clS_len a
  have hlb := wds_len b
  have hlb2 := clS_len b
  have HF := Lib.hid (fun v1 v2 W (h1 : TxV W v1 (clS a)) (h2 : RowsV W v2 (wds b)) => wkept v1 v2 (clS a) (wds b) (clS_ne a) (wds_ne b) (by omega) (by omega) W h1 h2)
  unfold FndEnd at HF
  have HR : Hid (kepS (clS a) (wds b) = ksS a b) := Lib.hid rfl
  rw [HR.out] at HF
  have HBD : Hid ((fnd0 (ksS a b)).at_.length ≤ 490000000000 ∧ ∀ x ∈ (fnd0 (ksS a b)).at_, x < (clS a).length) := Lib.hid (by
    cases h : ksS a b with
    | none => exact ⟨by simp [fnd0], by simp [fnd0]⟩
    | some f => have := ks_bd ha hb h; exact ⟨this.2.2.1, this.2.2.2⟩)
  generalize ksS a b = R at HF HBD ⊢
  generalize (clS a).length = n at HBD ⊢
  generalize tx a = TA at HA ⊢
  generalize tx b = TB at HB ⊢
  clear HR ha hb hla hlb hlb2
  go_enter Try.func14, Try.ntmps14
  go_wp2_with (first | (go_at_call 10; fail))
  refine (HA.out w).mono ?_
  rintro e w1 ⟨v1, rfl, h1, hb1⟩
  have HV1 := Lib.hid h1
  have HB1 := Lib.hid hb1
  obtain ⟨x1, c1, rfl, _⟩ := h1.old
  clear h1 hb1
  go_wp2_with (first | (go_at_call 11; fail))
  refine (HB.out w1).mono ?_
  rintro e w2 ⟨v2, rfl, h2, hb2⟩
  have HV2 := Lib.hid h2
  have HV1' := Lib.hid (HV1.out.below hb2)
  have HB2 := Lib.hid (HB1.out.trans (below_le hb2 HB1.out.size))
  obtain ⟨x2, c2, rfl, _⟩ := h2
  clear hb2
  go_wp2_with (first | (go_at_call 9; fail))
  refine (HF.out _ _ w2 HV1'.out HV2.out).mono ?_
  rintro e w3 ⟨v3, rfl, hv3, hb3⟩
  obtain ⟨x3, c3, rfl, hI3⟩ := hv3.parts
  have HSZ : Hid (w.heap.size ≤ w2.heap.size) := Lib.hid HB2.out.size
  have HB3 := Lib.hid (HB2.out.trans (below_le hb3 HB2.out.size))
  have HI4 : Hid (IntO w.heap.size (w3.alloc (.cells #[.int .i64 (fnd0 R).rank, .int .i64 (fnd0 R).gaps, .slice x3 (fnd0 R).at_.length c3] 32)) (.slice x3 (fnd0 R).at_.length c3) (fnd0 R).at_) := Lib.hid ((hI3.mono HSZ.out).below ((Below.refl _ _).alloc (Nat.le_refl _) _))
  have HC4 : Hid (C3 32 (w3.alloc (.cells #[.int .i64 (fnd0 R).rank, .int .i64 (fnd0 R).gaps, .slice x3 (fnd0 R).at_.length c3] 32)) w3.heap.size (.int .i64 (fnd0 R).rank) (.int .i64 (fnd0 R).gaps) (.slice x3 (fnd0 R).at_.length c3)) := Lib.hid (heap_alloc_new _ _)
  have HB4 := Lib.hid (HB3.out.alloc HB3.out.size (.cells #[.int .i64 (fnd0 R).rank, .int .i64 (fnd0 R).gaps, .slice x3 (fnd0 R).at_.length c3] 32))
  clear hv3 hb3 hI3 HB3
  go_upto_region 2 with (fail)
  generalize (w3.alloc (.cells #[.int .i64 (fnd0 R).rank, .int .i64 (fnd0 R).gaps, .slice x3 (fnd0 R).at_.length c3] 32)) = W4 at HI4 HC4 HB4 ⊢
  generalize w3.heap.size = fb at HC4 ⊢
  obtain ⟨_, _, e2, _, _, _⟩ := HC4.out.cells
  have HSO := Lib.hid (wsorti HI4.out HBD.out.1 HB4.out.size)
  have HNR := Lib.hid (C3.not_row HC4.out (by decide) HI4.out)
  go_wp2_with (first | (go_at_call 20; fail))
  refine HSO.out.mono ?_
  rintro e w5 ⟨rfl, hb5, hk5, h5⟩
  have HB5 := Lib.hid (HB4.out.trans hb5)
  obtain ⟨_, _, e5, _, _, _⟩ := (HC4.out.kept (hk5 fb HC4.out.lt HNR.out)).cells
  have HK5 := Lib.hid h5
  have HSZ5 := Lib.hid hb5.size
  clear HSO hb5 hk5 h5 e2
  have HCO : Hid (Calls Try.prog 21 #[.slice x3 (fnd0 R).at_.length c3] w5 fun e w' => ∃ v, e = .returned v ∧ IntV w' v (mkL (fnd0 R).at_ n) ∧ Below w.heap.size w5 w') := Lib.hid (by
    by_cases h0 : (fnd0 R).at_ = []
    · rw [h0]
      refine (Try.slices_Compact_int_empty x3 c3 w5).mono ?_
      rintro e w' ⟨rfl, rfl⟩
      have e : mkL [] n = [] := by simp [mkL]
      rw [e]
      exact ⟨_, rfl, ⟨x3, c3, rfl, by simp, fun q => absurd rfl q⟩, Below.refl _ _⟩
    · obtain ⟨q, rfl, hq1, hq2, hq3, hH⟩ := HK5.out h0
      exact wcompi hH HBD.out.1 hq3 hq2 (by have := HSZ5.out; omega) HB5.out.size HBD.out.2)
  clear HK5
  go_wp2_with (first | (go_at_call 21; fail))
  refine HCO.out.mono ?_
  rintro e w6 ⟨v6, rfl, hv6, hb6⟩
  have HV6 := Lib.hid (And.intro hv6 (HB5.out.trans hb6))
  clear hv6 hb6 HCO
  go_wp2
  go_ret
  exact ⟨_, rfl, HV6.out.1, HV6.out.2⟩
end Go.Proofs.Ytdehjofmangmbaa
