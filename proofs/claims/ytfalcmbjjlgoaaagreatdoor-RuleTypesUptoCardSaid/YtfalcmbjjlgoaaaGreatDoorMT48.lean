/- Own texts, merged: RN. -/
import Derived.Deep.RegionHeld3
import Derived.Test.YtfalcmbjjlgoaaaGreatDoorMT42
/- Walk: the reference's SameNode, of two trees that are the same. -/
namespace Go.Proofs.YtfalcmbjjlgoaaaGreatDoor
open Go.RowKit Go.Shelf
attribute [local go_sem] run_store_float
set_option maxRecDepth 100000 in
set_option maxHeartbeats 8000000 in
theorem rsameNode : ∀ (n : Nat) (t : Tree), szT t ≤ n → ∀ (A1 A2 : Nat → Prop) (va vb : Value) (w : World), szT t ≤ 1000000 → NodeV A1 w va t → NodeV A2 w vb t →
    Calls Tryz.prog 10 #[va, vb] w fun e w' => e = .returned (.bool true) ∧ Below w.heap.size w w' := by
  intro n
  induction n with
  | zero => intro t h; cases t; simp only [szT] at h; omega
  | succ n ih =>
    intro t hn A1 A2 va vb w hd hv hv2
    obtain ⟨op, fn, s, l⟩ := t
    obtain ⟨x, cap, rfl, hcap, hx, hch⟩ := hv
    obtain ⟨x2, cap2, rfl, hcap2, hx2, hch2⟩ := hv2
    have HIH := Lib.hid ih
    have HN := Lib.hid (show szL l ≤ n by simp only [szT] at hn; omega)
    have HD := Lib.hid (show 1 + szL l ≤ 1000000 by simpa only [szT] using hd)
    have HC := Lib.hid hch
    have HC2 := Lib.hid hch2
    have hll : l.length ≤ 1000000 := by have := len_szL l; have := HD.out; omega
    have HX := Lib.hid hx
    have HX2 := Lib.hid hx2
    obtain ⟨N, hN⟩ : ∃ N, N = l.length := ⟨_, rfl⟩
    rw [← hN] at hll hcap hcap2 ⊢
    have HNL := Lib.hid hN
    have HB0 := Lib.hid (((Below.refl w.heap.size w).alloc (Nat.le_refl _) (.cells #[.string (tx op), .float .f64 fn, .string (tx s), .slice x N cap] 25)).alloc (by simp) (.cells #[.string (tx op), .float .f64 fn, .string (tx s), .slice x2 N cap2] 25))
    have HA0 : Hid (NB ((w.alloc (.cells #[.string (tx op), .float .f64 fn, .string (tx s), .slice x N cap] 25)).alloc (.cells #[.string (tx op), .float .f64 fn, .string (tx s), .slice x2 N cap2] 25)) w.heap.size (.agg #[.string (tx op), .float .f64 fn, .string (tx s), .slice x N cap])) := Lib.hid
      ((show NB (w.alloc (.cells #[.string (tx op), .float .f64 fn, .string (tx s), .slice x N cap] 25)) w.heap.size _ from ⟨_, _, _, _, rfl, heap_alloc_new _ _⟩).below ((Below.refl _ _).alloc (Nat.le_refl _) _))
    have HA1 : Hid (NB ((w.alloc (.cells #[.string (tx op), .float .f64 fn, .string (tx s), .slice x N cap] 25)).alloc (.cells #[.string (tx op), .float .f64 fn, .string (tx s), .slice x2 N cap2] 25)) (w.heap.size + 1) (.agg #[.string (tx op), .float .f64 fn, .string (tx s), .slice x2 N cap2])) := Lib.hid
      ⟨_, _, _, _, rfl, by simpa using heap_alloc_new (w.alloc (.cells #[.string (tx op), .float .f64 fn, .string (tx s), .slice x N cap] 25)) (.cells #[.string (tx op), .float .f64 fn, .string (tx s), .slice x2 N cap2] 25)⟩
    clear hN hn hd hch hx ih hch2 hx2
    go_enter Tryz.func10, Tryz.ntmps10
    go_upto_region 1 with (fail)
    generalize ((w.alloc (.cells #[.string (tx op), .float .f64 fn, .string (tx s), .slice x N cap] 25)).alloc (.cells #[.string (tx op), .float .f64 fn, .string (tx s), .slice x2 N cap2] 25)) = W0 at HB0 HA0 HA1 ⊢
    have HSM : Hid (∀ W, Calls Tryz.prog 22 #[.agg #[.int .i64 1, .float .f64 fn, .string ⟨#[]⟩, .bool false], .agg #[.int .i64 1, .float .f64 fn, .string ⟨#[]⟩, .bool false]] W fun e w' => e = .returned (.bool true) ∧ Below W.heap.size W w') := Lib.hid (fun W => by
      have h := rSame ⟨1, fn, [], false⟩ ⟨1, fn, [], false⟩ W
      have e : sameV ⟨1, fn, [], false⟩ ⟨1, fn, [], false⟩ = true := by unfold sameV; simp [sameN_self]
      rw [e] at h
      exact h)
    have b0 : ((tx op).toList != (tx op).toList) = false := bne_self_eq_false _
    have b1 : ((tx s).toList != (tx s).toList) = false := bne_self_eq_false _
    have b2 : ((N : Int) != (N : Int)) = false := bne_self_eq_false _
    have HRD : Hid (∀ W, Below W0.heap.size W0 W → Below W0.heap.size W0 W ∧ W.cell? ⟨w.heap.size, 0, none⟩ = some (.string (tx op)) ∧ W.cell? ⟨w.heap.size, 1, none⟩ = some (.float .f64 fn) ∧ W.cell? ⟨w.heap.size, 2, none⟩ = some (.string (tx s)) ∧ W.cell? ⟨w.heap.size, 3, none⟩ = some (.slice x N cap) ∧ W.cell? ⟨w.heap.size + 1, 0, none⟩ = some (.string (tx op)) ∧ W.cell? ⟨w.heap.size + 1, 1, none⟩ = some (.float .f64 fn) ∧ W.cell? ⟨w.heap.size + 1, 2, none⟩ = some (.string (tx s)) ∧ W.cell? ⟨w.heap.size + 1, 3, none⟩ = some (.slice x2 N cap2)) := Lib.hid (fun W hW => by
      obtain ⟨a0, a1, a2, a3, _⟩ := (HA0.out.below hW).cells
      obtain ⟨c0, c1, c2, c3, _⟩ := (HA1.out.below hW).cells
      exact ⟨hW, a0, a1, a2, a3, c0, c1, c2, c3⟩)
    go_region_held3 (fun W => Below W0.heap.size W0 W ∧ W.cell? ⟨w.heap.size, 0, none⟩ = some (.string (tx op)) ∧ W.cell? ⟨w.heap.size, 1, none⟩ = some (.float .f64 fn) ∧ W.cell? ⟨w.heap.size, 2, none⟩ = some (.string (tx s)) ∧ W.cell? ⟨w.heap.size, 3, none⟩ = some (.slice x N cap) ∧ W.cell? ⟨w.heap.size + 1, 0, none⟩ = some (.string (tx op)) ∧ W.cell? ⟨w.heap.size + 1, 1, none⟩ = some (.float .f64 fn) ∧ W.cell? ⟨w.heap.size + 1, 2, none⟩ = some (.string (tx s)) ∧ W.cell? ⟨w.heap.size + 1, 3, none⟩ = some (.slice x2 N cap2))
      (first | exact HRD.out _ (Below.refl _ _).drew | exact HRD.out _ HB3.out | exact HRD.out _ HB2.out | exact HRD.out _ HB1.out)
      (first
        | (go_at_call 22; (with_reducible refine (HSM.out _).mono ?_); rintro e y3 ⟨rfl, hb3⟩; have HB3 := Lib.hid (HB2.out.trans (below_le hb3 HB2.out.size) : Below W0.heap.size W0 y3); clear hb3)
        | (go_at_call 27; have HB1' := HB1; (with_reducible refine (rnum _ _).mono ?_); rintro e y2 ⟨rfl, hb2⟩; have HB2 := Lib.hid (HB1'.out.trans (below_le hb2 HB1'.out.size) : Below W0.heap.size W0 y2); clear hb2 HB1')
        | (go_at_call 27; (with_reducible refine (rnum _ _).mono ?_); rintro e y1 ⟨rfl, hb1⟩; have HB1 := Lib.hid ((Below.refl W0.heap.size W0).drew.trans hb1 : Below W0.heap.size W0 y1); clear hb1))
    go_wp2_with fail
    go_loopg [5] N (fun gh i wr => ∃ j : Nat, j + gh = N ∧ i = .int .i64 j ∧ Hid (Below W0.heap.size W0 wr))
    case atStart => exact ⟨0, by omega, rfl, HB3⟩
    case round =>
      obtain ⟨j, hj, rfl, HB⟩ := hrel
      obtain ⟨_, p0, p1, p2, p3, r0, r1, r2, r3⟩ := HRD.out wr HB.out
      clear HB1 HB2 HB3 HSM b0 b1 b2
      by_cases q : j < N
      · have hjl : j < l.length := by have := HNL.out; omega
        obtain ⟨a, rfl⟩ : ∃ a, x = some a := by
          cases x with
          | none => have := HX.out rfl; rw [this] at hjl; cases hjl
          | some a => exact ⟨a, rfl⟩
        obtain ⟨a2, rfl⟩ : ∃ a, x2 = some a := by
          cases x2 with
          | none => have := HX2.out rfl; rw [this] at hjl; cases hjl
          | some a => exact ⟨a, rfl⟩
        obtain ⟨u0, u1, u2, u3, d0, d1, d2, d3, hnode⟩ := NodesV.get l 0 (HC.out a rfl).2 j hjl
        obtain ⟨y0, y1, y2, y3, e0, e1, e2, e3, hnode2⟩ := NodesV.get l 0 (HC2.out a2 rfl).2 j hjl
        rw [Nat.zero_add] at d0 d1 d2 d3 e0 e1 e2 e3
        have hab : a.block < w.heap.size := ((HC.out a rfl).1 (nil_not hjl)).2
        have hab2 : a2.block < w.heap.size := ((HC2.out a2 rfl).1 (nil_not hjl)).2
        rw [add_lit _ _ _ (by decide)] at d1 d2 d3 e1 e2 e3
        obtain ⟨o1, n1, s1, x1, l1, c1, hag⟩ := hnode.agg
        cases hag
        obtain ⟨o3, n3, s3, x3, l3, c3, hag⟩ := hnode2.agg
        cases hag
        have hww : Below w.heap.size w wr := HB0.out.trans (below_le HB.out HB0.out.size)
        have HKP : Hid (∀ W, Below wr.heap.size wr W → Below wr.heap.size wr W ∧ W.cell? ⟨w.heap.size, 3, none⟩ = some (.slice (some a) N cap) ∧ W.cell? ⟨w.heap.size + 1, 3, none⟩ = some (.slice (some a2) N cap2) ∧
            W.cell? (a.add (j * 4)) = some (.string o1) ∧ W.cell? ⟨(a.add (j * 4)).block, (a.add (j * 4)).off + 1, none⟩ = some (.float .f64 n1) ∧ W.cell? ⟨(a.add (j * 4)).block, (a.add (j * 4)).off + 2, none⟩ = some (.string s1) ∧ W.cell? ⟨(a.add (j * 4)).block, (a.add (j * 4)).off + 3, none⟩ = some (.slice x1 l1 c1) ∧
            W.cell? (a2.add (j * 4)) = some (.string o3) ∧ W.cell? ⟨(a2.add (j * 4)).block, (a2.add (j * 4)).off + 1, none⟩ = some (.float .f64 n3) ∧ W.cell? ⟨(a2.add (j * 4)).block, (a2.add (j * 4)).off + 2, none⟩ = some (.string s3) ∧ W.cell? ⟨(a2.add (j * 4)).block, (a2.add (j * 4)).off + 3, none⟩ = some (.slice x3 l3 c3)) := Lib.hid (fun W hW => by
          have hw2 : Below w.heap.size w W := hww.trans (below_le hW hww.size)
          obtain ⟨_, _, _, _, k3, _, _, _, m3⟩ := HRD.out W (HB.out.trans (below_le hW HB.out.size))
          have hs : ∀ k, W.heap[(a.add k).block]? = w.heap[(a.add k).block]? := fun k => by rw [add_block]; exact hw2.block _ hab
          have hs2 : ∀ k, W.heap[(a2.add k).block]? = w.heap[(a2.add k).block]? := fun k => by rw [add_block]; exact hw2.block _ hab2
          exact ⟨hW, k3, m3, cell_same (hs _) d0, cell_same (hs (j * 4)) d1, cell_same (hs (j * 4)) d2, cell_same (hs (j * 4)) d3, cell_same (hs2 _) e0, cell_same (hs2 (j * 4)) e1, cell_same (hs2 (j * 4)) e2, cell_same (hs2 (j * 4)) e3⟩)
        have HCH : Hid (∀ W, Below wr.heap.size wr W → Calls Tryz.prog 10 #[.agg #[.string o1, .float .f64 n1, .string s1, .slice x1 l1 c1], .agg #[.string o3, .float .f64 n3, .string s3, .slice x3 l3 c3]] W fun e w' => e = .returned (.bool true) ∧ Below W.heap.size W w') := Lib.hid (fun W hW => by
          have h1 := szL_get l j hjl
          have h2 := HN.out
          have h3 := HD.out
          have hw2 : Below w.heap.size w W := hww.trans (below_le hW hww.size)
          exact HIH.out l[j] (by omega) A1 A2 _ _ W (by omega) (hnode.below hw2) (hnode2.below hw2))
        obtain ⟨_, k0, k1, k2, k3, k4, k5, k6, k7, k8, k9⟩ := HKP.out wr (Below.refl _ _)
        clear d0 d1 d2 d3 e0 e1 e2 e3 hnode hnode2 hww p0 p1 p2 r0 r1 r2 p3 r3
        go_wp2_with fail
        go_region_held3 (fun W => Below wr.heap.size wr W ∧ W.cell? ⟨w.heap.size, 3, none⟩ = some (.slice (some a) N cap) ∧ W.cell? ⟨w.heap.size + 1, 3, none⟩ = some (.slice (some a2) N cap2) ∧
            W.cell? (a.add (j * 4)) = some (.string o1) ∧ W.cell? ⟨(a.add (j * 4)).block, (a.add (j * 4)).off + 1, none⟩ = some (.float .f64 n1) ∧ W.cell? ⟨(a.add (j * 4)).block, (a.add (j * 4)).off + 2, none⟩ = some (.string s1) ∧ W.cell? ⟨(a.add (j * 4)).block, (a.add (j * 4)).off + 3, none⟩ = some (.slice x1 l1 c1) ∧
            W.cell? (a2.add (j * 4)) = some (.string o3) ∧ W.cell? ⟨(a2.add (j * 4)).block, (a2.add (j * 4)).off + 1, none⟩ = some (.float .f64 n3) ∧ W.cell? ⟨(a2.add (j * 4)).block, (a2.add (j * 4)).off + 2, none⟩ = some (.string s3) ∧ W.cell? ⟨(a2.add (j * 4)).block, (a2.add (j * 4)).off + 3, none⟩ = some (.slice x3 l3 c3))
          (first | exact HKP.out _ (Below.refl _ _).drew | exact HKP.out _ HB5.out)
          (first | (go_at_call 10; (with_reducible refine (HCH.out _ (Below.refl _ _).drew).mono ?_); rintro e w5 ⟨rfl, hb5⟩; have HB5 := Lib.hid ((Below.refl wr.heap.size wr).drew.trans hb5 : Below wr.heap.size wr w5); clear hb5))
        have HB6 := Lib.hid (HB.out.trans (below_le HB5.out HB.out.size))
        clear k0 k1 k2 k3 k4 k5 k6 k7 k8 k9 HKP HCH
        go_wp2
        go_roundg (gk - 1)
        case measure => omega
        case rel => exact ⟨j + 1, by omega, by go_num, HB6⟩
      · go_wp2
        go_ret
        exact ⟨rfl, HB0.out.trans (below_le HB.out HB0.out.size)⟩
end Go.Proofs.YtfalcmbjjlgoaaaGreatDoor
