/- Walks: the reference's gaps and Rank. -/
import Derived.Test.YtdehjofmangmbaaGreatFF
namespace Go.Proofs.YtdehjofmangmbaaGreat
open Go.RowKit Go.Shelf
set_option maxRecDepth 100000 in
set_option maxHeartbeats 1500000 in
theorem rgaps (ok : Bool) (r : Int) (x : Option Addr) (c : Nat) (l : List Nat) (b N : Nat) (w : World) (hI : IntO b w (.slice x l.length c) l) (hN : N ≤ 1000000) (hl : ∀ y ∈ l, y < N) (hp : l.Pairwise (· < ·)) :
    Calls Tryz.prog 32 #[.agg #[.bool ok, .int .i64 r, .slice x l.length c]] w fun e w' => e = .returned (.int .i64 ((if l.length = 0 then 0 else gapN l : Nat) : Int)) ∧ Below w.heap.size w w' := by
  have HB0 : Hid (Below w.heap.size w (w.alloc (.cells #[.bool ok, .int .i64 r, .slice x l.length c] 47))) := Lib.hid ((Below.refl _ _).alloc (Nat.le_refl _) _)
  have HC0 : Hid (C3 47 (w.alloc (.cells #[.bool ok, .int .i64 r, .slice x l.length c] 47)) w.heap.size (.bool ok) (.int .i64 r) (.slice x l.length c)) := Lib.hid (heap_alloc_new _ _)
  have HI := Lib.hid (hI.below HB0.out)
  have hll := inc_len hp hl
  by_cases h0 : l.length = 0
  · rw [if_pos h0]
    rw [h0]
    clear hI HI hl hp hll h0
    go_enter Tryz.func32, Tryz.ntmps32
    go_wp2
    go_ret
    exact ⟨rfl, (Below.refl _ _).alloc (Nat.le_refl _) _⟩
  · rw [if_neg h0]
    obtain ⟨q, hq⟩ : ∃ q, l.length = q + 1 := ⟨l.length - 1, by omega⟩
    obtain ⟨hkk, g, rfl, hg, hcc, hget⟩ := HI.out.get 0 (by omega)
    clear hkk
    have hlast := hget q (by omega)
    have hfst := hget 0 (by omega)
    have hsp := inc_span hp q (by omega)
    have hbd := hl (l.getD q 0) (getD_mem (by omega))
    have HG : Hid (gapN l = l.getD q 0 - l.getD 0 0 + 1 - (q + 1)) := Lib.hid (by unfold gapN; rw [hq]; rfl)
    obtain ⟨A, hA⟩ : ∃ A, A = l.getD q 0 := ⟨_, rfl⟩
    obtain ⟨D, hD⟩ : ∃ D, D = l.getD 0 0 := ⟨_, rfl⟩
    rw [← hA] at hlast hsp hbd HG
    rw [← hD] at hfst hsp HG
    obtain ⟨G, hG⟩ : ∃ G, G = gapN l := ⟨_, rfl⟩
    rw [← hG] at HG ⊢
    have hGI : (A : Int) - (D : Int) + 1 - ((q : Int) + 1) = (G : Int) := by have := HG.out; omega
    rw [hq] at hcc hll HB0 HC0 hlast hfst ⊢
    clear hI HI hl hp h0 hget hg hA hD hG hq
    go_enter Tryz.func32, Tryz.ntmps32
    go_upto_region 4 with (fail)
    generalize (w.alloc (.cells #[.bool ok, .int .i64 r, .slice (some ⟨g, 0, none⟩) (q + 1) c] 47)) = W0 at HB0 HC0 hlast hfst ⊢
    obtain ⟨e0, e1, e2, _, _, _⟩ := HC0.out.cells
    go_quiet (fail)
    go_wp2
    go_ret
    exact ⟨rfl, below_drewN HB0.out _⟩
set_option maxRecDepth 100000 in
set_option maxHeartbeats 1500000 in
theorem rrank (a b : Bs) (ha : a.length ≤ 10000) (hb : b.length ≤ 10000) (w : World) : Calls Tryz.prog 9 #[.string (tx a), .string (tx b)] w (RkEnd (rkS a b) w) := by
  unfold RkEnd
  have HA := Lib.hid (fun W => (rcl a ha W).mono fun e W' h => h.view ha)
  have HB := Lib.hid (fun W => (rcl b hb W).mono fun e W' h => h.view hb)
  have HF := Lib.hid (fun v1 v2 W (h1 : TxV W v1 (clS a)) (h2 : TxV W v2 (clS b)) => rstand v1 v2 (clS a) (clS b) (clS_ne a) W h1 h2)
  unfold RfEnd at HF
  have HR : Hid (fndS (clS a) (clS b) = rkS a b) := Lib.hid rfl
  have HOK : Hid (∀ f, rkS a b = some f → FOk (clS a) f) := Lib.hid (fun f h => fnd_ok h)
  have HCL := Lib.hid (clS_len a)
  have HAL := Lib.hid ha
  rw [HR.out] at HF
  unfold RfO at HF
  have HNO : Hid ((rkS a b).isSome = false → (fnd0 (rkS a b)).rank = 0 ∧ (fnd0 (rkS a b)).gaps = 0) := Lib.hid (fun h => by
    cases hr : rkS a b with
    | none => exact ⟨rfl, rfl⟩
    | some f => rw [hr] at h; cases h)
  have HYE : Hid ((rkS a b).isSome = true → FOk (clS a) (fnd0 (rkS a b))) := Lib.hid (fun h => by
    cases hr : rkS a b with
    | none => rw [hr] at h; cases h
    | some f => exact HOK.out f hr)
  generalize fnd0 (rkS a b) = f at HF HNO HYE ⊢
  generalize (rkS a b).isSome = s at HF HNO HYE ⊢
  clear HOK
  generalize tx a = TA at HA ⊢
  generalize tx b = TB at HB ⊢
  clear HR ha hb
  go_enter Tryz.func9, Tryz.ntmps9
  go_wp2_with (first | (go_at_call 28; fail))
  refine (HA.out w).mono ?_
  rintro e w1 ⟨v1, rfl, h1, hb1⟩
  have HV1 := Lib.hid h1
  have HB1 := Lib.hid hb1
  obtain ⟨x1, c1, rfl, _⟩ := h1.old
  clear h1 hb1
  go_wp2_with (first | (go_at_call 28; fail))
  refine (HB.out w1).mono ?_
  rintro e w2 ⟨v2, rfl, h2, hb2⟩
  have HV2 := Lib.hid h2
  have HV1' := Lib.hid (HV1.out.below hb2)
  have HB2 := Lib.hid (HB1.out.trans (below_le hb2 HB1.out.size))
  obtain ⟨x2, c2, rfl, _⟩ := h2.old
  clear h2 hb2
  go_wp2_with (first | (go_at_call 31; fail))
  refine (HF.out _ _ w2 HV1'.out HV2.out).mono ?_
  rintro e w3 ⟨v3, rfl, ⟨x3, c3, rfl, hI3⟩, hb3⟩
  have hal : Below w3.heap.size w3 (w3.alloc (.cells #[.bool s, .int .i64 f.rank, .slice x3 f.at_.length c3] 47)) := (Below.refl _ _).alloc (Nat.le_refl _) _
  have HB3 : Hid (Below w.heap.size w (w3.alloc (.cells #[.bool s, .int .i64 f.rank, .slice x3 f.at_.length c3] 47))) := Lib.hid (by
    have h := HB2.out.trans (below_le hb3 HB2.out.size)
    exact h.alloc h.size _)
  cases s with
  | false =>
    obtain ⟨q1, q2⟩ := HNO.out rfl
    have HR1 := Lib.hid (And.intro q1 q2)
    clear hI3 hb3 hal q1 q2
    go_wp2
    go_ret3
    refine ⟨?_, HB3.out⟩
    rw [HR1.out.1, HR1.out.2]
    rfl
  | true =>
    have hok := HYE.out rfl
    have HI3 : Hid (IntO w2.heap.size (w3.alloc (.cells #[.bool true, .int .i64 f.rank, .slice x3 f.at_.length c3] 47)) (.slice x3 f.at_.length c3) f.at_) := Lib.hid (hI3.below hal)
    have HC3 : Hid (C3 47 (w3.alloc (.cells #[.bool true, .int .i64 f.rank, .slice x3 f.at_.length c3] 47)) w3.heap.size (.bool true) (.int .i64 f.rank) (.slice x3 f.at_.length c3)) := Lib.hid (heap_alloc_new _ _)
    have HB3' : Hid (Below w.heap.size w (w3.alloc (.cells #[.bool true, .int .i64 f.rank, .slice x3 f.at_.length c3] 47))) := HB3
    have HGC := Lib.hid (fun (W : World) (h : IntO w2.heap.size W (.slice x3 f.at_.length c3) f.at_) => rgaps true f.rank x3 c3 f.at_ w2.heap.size (clS a).length W h (by have := HCL.out; have := HAL.out; omega) hok.at_ hok.inc)
    rw [hok.gap] at HGC
    have hfr : f.rank ≤ 4 := hok.rank
    clear hI3 hb3 hal hok HB3
    go_upto_region 4 with (fail)
    generalize (w3.alloc (.cells #[.bool true, .int .i64 f.rank, .slice x3 f.at_.length c3] 47)) = W0 at HI3 HC3 HB3' ⊢
    generalize w3.heap.size = g at HC3 ⊢
    have HRD : Hid (∀ W, Below W0.heap.size W0 W → Below W0.heap.size W0 W ∧ W.cell? ⟨g, 0, none⟩ = some (.bool true) ∧ W.cell? ⟨g, 1, none⟩ = some (.int .i64 f.rank) ∧ W.cell? ⟨g, 2, none⟩ = some (.slice x3 f.at_.length c3)) := Lib.hid (fun W hW => by
      obtain ⟨a0, a1, a2, _⟩ := (HC3.out.below hW).cells
      exact ⟨hW, a0, a1, a2⟩)
    have HG2 : Hid (∀ W, Below W0.heap.size W0 W → Calls Tryz.prog 32 #[.agg #[.bool true, .int .i64 f.rank, .slice x3 f.at_.length c3]] W fun e w' => e = .returned (.int .i64 (f.gaps : Int)) ∧ Below W0.heap.size W0 w') := Lib.hid (fun W hW =>
      (HGC.out W (HI3.out.below hW)).mono fun e w' h => ⟨h.1, hW.trans (below_le h.2 hW.size)⟩)
    clear HGC
    go_region_held3 (fun W => Below W0.heap.size W0 W ∧ W.cell? ⟨g, 0, none⟩ = some (.bool true) ∧ W.cell? ⟨g, 1, none⟩ = some (.int .i64 f.rank) ∧ W.cell? ⟨g, 2, none⟩ = some (.slice x3 f.at_.length c3))
      (first | exact HRD.out _ (Below.refl _ _).drew | exact HRD.out _ HQ1.out)
      (first
        | (go_at_call 32; (with_reducible refine (HG2.out _ (Below.refl _ _).drew).mono ?_); rintro e y1 ⟨rfl, hb⟩; have HQ1 := Lib.hid hb; clear hb))
    all_goals
      go_wp2
      go_ret3
      exact ⟨rfl, HB3'.out.trans (below_le HQ1.out HB3'.out.size)⟩
end Go.Proofs.YtdehjofmangmbaaGreat
