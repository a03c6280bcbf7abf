/- Own texts, merged: FK. -/
import Derived.Test.YtdehjofmangmbaaGreatMS37
import Derived.Test.YtdehjofmangmbaaGreatMS38
/- Walks: Cost of both sides. -/
namespace Go.Proofs.YtdehjofmangmbaaGreat
open Go.RowKit Go.Shelf
def ksS (opt q : Bs) : Option Fnd := kepS (clS opt) (wds q)
theorem ks_bd {a b : Bs} {f : Fnd} (ha : a.length ≤ 10000) (hb : b.length ≤ 10000) (h : ksS a b = some f) : f.rank ≤ 2800000 ∧ f.gaps ≤ 490000000000 ∧ f.at_.length ≤ 490000000000 ∧ ∀ x ∈ f.at_, x < (clS a).length := by
  have hk := kep_ok _ _ _ h
  have h1 := clS_len a
  have h2 := clS_len b
  have h3 := wds_len b
  have h4 : (clS a).length * (wds b).length ≤ 700000 * 700000 := Nat.mul_le_mul (by omega) (by omega)
  exact ⟨by have := hk.rank; omega, by have := hk.gaps; omega, by have := hk.len; omega, hk.at_⟩
theorem wds_ok (q : Bs) (hq : q.length ≤ 200) : ∀ L ∈ wds q, L ≠ [] ∧ (∀ c ∈ L, Clu c) ∧ L.flatten.length ≤ 900000 ∧ L.length ≤ 700000 := by
  intro L hL
  have h1 := clS_len q
  have hc : ∀ c ∈ L, Clu c := fun c hc => cl_clu q c (wds_mem q L hL c hc)
  have h2 := wds_flat q L hL
  have h4 : L.length ≤ (clS q).length := by
    have := wds_sum q
    obtain ⟨j, hj, e⟩ := List.getElem_of_mem hL
    have h5 := len_sum (wds q) j hj
    rw [List.getD_eq_getElem?_getD, List.getElem?_eq_getElem hj] at h5
    simp only [Option.getD_some] at h5
    rw [e] at h5
    omega
  exact ⟨wds_ne q L hL, hc, by omega, by omega⟩
set_option maxRecDepth 100000 in
set_option maxHeartbeats 1500000 in
theorem wcost (a b : Bs) (ha : a.length ≤ 10000) (hb : b.length ≤ 10000) (w : World) : Calls Tryz.prog 16 #[.string (tx a), .string (tx b)] w (RkEnd (ksS a b) w) := by
  unfold RkEnd
  have HA := Lib.hid (fun W => (wcl a ha W).mono fun e W' h => h.view ha)
  have HB := Lib.hid (fun W => wwords b hb W)
  unfold WdEnd at HB
  have hla := clS_len a
  have hlb := wds_len b
  have hlb2 := clS_len b
  have HF := Lib.hid (fun v1 v2 W (h1 : TxV W v1 (clS a)) (h2 : RowsV W v2 (wds b)) => wkept v1 v2 (clS a) (wds b) (clS_ne a) (wds_ne b) (by omega) (by omega) W h1 h2)
  unfold FndEnd at HF
  have HR : Hid (kepS (clS a) (wds b) = ksS a b) := Lib.hid rfl
  rw [HR.out] at HF
  generalize ksS a b = R at HF ⊢
  generalize tx a = TA at HA ⊢
  generalize tx b = TB at HB ⊢
  clear HR ha hb hla hlb hlb2
  go_enter Tryz.func16, Tryz.ntmps16
  go_wp2_with (first | (go_at_call 30; fail))
  refine (HA.out w).mono ?_
  rintro e w1 ⟨v1, rfl, h1, hb1⟩
  have HV1 := Lib.hid h1
  have HB1 := Lib.hid hb1
  obtain ⟨x1, c1, rfl, _⟩ := h1.old
  clear h1 hb1
  go_wp2_with (first | (go_at_call 35; fail))
  refine (HB.out w1).mono ?_
  rintro e w2 ⟨v2, rfl, h2, hb2⟩
  have HV2 := Lib.hid h2
  have HV1' := Lib.hid (HV1.out.below hb2)
  have HB2 := Lib.hid (HB1.out.trans (below_le hb2 HB1.out.size))
  obtain ⟨x2, c2, rfl, _⟩ := h2
  clear hb2
  go_wp2_with (first | (go_at_call 38; fail))
  refine (HF.out _ _ w2 HV1'.out HV2.out).mono ?_
  rintro e w3 ⟨v3, rfl, hv3, hb3⟩
  obtain ⟨x3, c3, rfl, _⟩ := hv3.parts
  have HB3 : Hid (∀ o nq, Below w.heap.size w ((w3.alloc o).drewN nq)) := Lib.hid (fun o nq => by
    have h := HB2.out.trans (below_le hb3 HB2.out.size)
    exact below_drewN (h.alloc h.size o) nq)
  clear hv3 hb3
  go_wp2
  go_quiet (fail)
  go_wp2
  go_ret3
  exact ⟨rfl, HB3.out _ _⟩
theorem prO_view {b n : Nat} {W : World} {v : Value} {r : Option Fnd} (h : PrO b W v n r) : ∃ (s : Bool) (x : Option Addr) (k c : Nat), v = .agg #[.bool s, .int .i64 (fnd0 r).rank, .int .i64 (fnd0 r).gaps, .slice x k c] ∧ s = r.isSome := by
  cases r with
  | none => exact ⟨false, none, 0, 0, h, rfl⟩
  | some f => obtain ⟨g, rfl, _, _⟩ := h; exact ⟨true, some ⟨g, 0, none⟩, n, n, rfl, rfl⟩
set_option maxRecDepth 100000 in
set_option maxHeartbeats 1500000 in
theorem rcost (a b : Bs) (ha : a.length ≤ 10000) (hb : b.length ≤ 200) (w : World) : Calls Tryz.prog 17 #[.string (tx a), .string (tx b)] w (RkEnd (ksS a b) w) := by
  unfold RkEnd
  have HB := Lib.hid (fun W => rWords b (by omega) W)
  unfold WrdEnd at HB
  have hlb := wds_len b
  have hlb2 := clS_len b
  have HF := Lib.hid (fun v2 W (h2 : TxV W v2 ((wds b).map List.flatten)) => rprice a (wds b) v2 ha (wds_ok b hb) (by omega) W h2)
  unfold PrEnd at HF
  have HR : Hid (kepS (clS a) (wds b) = ksS a b) := Lib.hid rfl
  have HL : Hid (((wds b).map List.flatten).length ≤ 1000000) := Lib.hid (by rw [List.length_map]; omega)
  rw [HR.out] at HF
  generalize ksS a b = R at HF ⊢
  generalize tx a = TA at HF ⊢
  generalize tx b = TB at HB ⊢
  rw [← List.length_map (f := List.flatten)] at HB
  generalize (wds b).map List.flatten = ws at HB HF HL
  clear HR ha hb hlb hlb2
  go_enter Tryz.func17, Tryz.ntmps17
  go_wp2_with (first | (go_at_call 14; fail))
  refine (HB.out w).mono ?_
  rintro e w1 ⟨v1, rfl, h1, hb1⟩
  have h2 := TxV.of_row h1 HL.out
  have HV1 := Lib.hid h2
  have HB1 := Lib.hid hb1
  obtain ⟨x1, c1, rfl, _⟩ := h2.old
  clear h1 h2 hb1
  go_wp2_with (first | (go_at_call 39; fail))
  refine (HF.out _ w1 HV1.out).mono ?_
  rintro e w3 ⟨v3, rfl, hv3, hb3⟩
  obtain ⟨s, x3, k3, c3, rfl, rfl⟩ := prO_view hv3
  have HB3 : Hid (∀ o nq, Below w.heap.size w ((w3.alloc o).drewN nq)) := Lib.hid (fun o nq => by
    have h := HB1.out.trans (below_le hb3 HB1.out.size)
    exact below_drewN (h.alloc h.size o) nq)
  clear hv3 hb3
  go_wp2
  go_quiet (fail)
  go_wp2
  go_ret3
  exact ⟨rfl, HB3.out _ _⟩
end Go.Proofs.YtdehjofmangmbaaGreat
