/- Own texts, merged: RN, X6, HA. -/
import Derived.Deep.RegionHeld3
import Derived.Test.YtfalcmbjjlgoaaaGreatDoorH9
import Derived.Test.YtfalcmbjjlgoaaaGreatDoorMB39
import Derived.Test.YtfalcmbjjlgoaaaGreatDoorMB46
/- Walk: the reference's SameNode, of two trees that are the same. -/
namespace Go.Proofs.YtfalcmbjjlgoaaaGreatDoor
open Go.RowKit Go.Shelf
attribute [local go_sem] run_store_float
set_option maxRecDepth 100000 in
set_option maxHeartbeats 8000000 in
theorem rsameNode : ∀ (n : Nat) (t : Tree), szT t ≤ n → ∀ (A1 A2 : Nat → Prop) (va vb : Value) (w : World), szT t ≤ 1000000 → NodeV A1 w va t → NodeV A2 w vb t →
    Calls Tryz.prog 10 #[va, vb] w fun e w' => e = .returned (.bool true) ∧ Below w.heap.size w w' := by
  intro n
  induction n with
  | zero => intro t h; cases t; simp only [szT] at h; omega
  | succ n ih =>
    intro t hn A1 A2 va vb w hd hv hv2
    obtain ⟨op, fn, s, l⟩ := t
    obtain ⟨x, cap, rfl, hcap, hx, hch⟩ := hv
    obtain ⟨x2, cap2, rfl, hcap2, hx2, hch2⟩ := hv2
    have HIH := Lib.hid ih
    have HN := Lib.hid (show szL l ≤ n by simp only [szT] at hn; omega)
    have HD := Lib.hid (show 1 + szL l ≤ 1000000 by simpa only [szT] using hd)
    have HC := Lib.hid hch
    have HC2 := Lib.hid hch2
    have hll : l.length ≤ 1000000 := by have := len_szL l; have := HD.out; omega
    have HX := Lib.hid hx
    have HX2 := Lib.hid hx2
    obtain ⟨N, hN⟩ : ∃ N, N = l.length := ⟨_, rfl⟩
    rw [← hN] at hll hcap hcap2 ⊢
    have HNL := Lib.hid hN
    have HB0 := Lib.hid (((Below.refl w.heap.size w).alloc (Nat.le_refl _) (.cells #[.string (tx op), .float .f64 fn, .string (tx s), .slice x N cap] 25)).alloc (by simp) (.cells #[.string (tx op), .float .f64 fn, .string (tx s), .slice x2 N cap2] 25))
    have HA0 : Hid (NB ((w.alloc (.cells #[.string (tx op), .float .f64 fn, .string (tx s), .slice x N cap] 25)).alloc (.cells #[.string (tx op), .float .f64 fn, .string (tx s), .slice x2 N cap2] 25)) w.heap.size (.agg #[.string (tx op), .float .f64 fn, .string (tx s), .slice x N cap])) := Lib.hid
      ((show NB (w.alloc (.cells #[.string (tx op), .float .f64 fn, .string (tx s), .slice x N cap] 25)) w.heap.size _ from ⟨_, _, _, _, rfl, heap_alloc_new _ _⟩).below ((Below.refl _ _).alloc (Nat.le_refl _) _))
    have HA1 : Hid (NB ((w.alloc (.cells #[.string (tx op), .float .f64 fn, .string (tx s), .slice x N cap] 25)).alloc (.cells #[.string (tx op), .float .f64 fn, .string (tx s), .slice x2 N cap2] 25)) (w.heap.size + 1) (.agg #[.string (tx op), .float .f64 fn, .string (tx s), .slice x2 N cap2])) := Lib.hid
      ⟨_, _, _, _, rfl, by simpa using heap_alloc_new (w.alloc (.cells #[.string (tx op), .float .f64 fn, .string (tx s), .slice x N cap] 25)) (.cells #[.string (tx op), .float .f64 fn, .string (tx s), .slice x2 N cap2] 25)⟩
    clear hN hn hd hch hx ih hch2 hx2
    go_enter Tryz.func10, Tryz.ntmps10
    go_upto_region 1 with (fail)
    generalize ((w.alloc (.cells #[.string (tx op), .float .f64 fn, .string (tx s), .slice x N cap] 25)).alloc (.cells #[.string (tx op), .float .f64 fn, .string (tx s), .slice x2 N cap2] 25)) = W0 at HB0 HA0 HA1 ⊢
    have HSM : Hid (∀ W, Calls Tryz.prog 22 #[.agg #[.int .i64 1, .float .f64 fn, .string ⟨#[]⟩, .bool false], .agg #[.int .i64 1, .float .f64 fn, .string ⟨#[]⟩, .bool false]] W fun e w' => e = .returned (.bool true) ∧ Below W.heap.size W w') := Lib.hid (fun W => by
      have h := rSame ⟨1, fn, [], false⟩ ⟨1, fn, [], false⟩ W
      have e : sameV ⟨1, fn, [], false⟩ ⟨1, fn, [], false⟩ = true := by unfold sameV; simp [sameN_self]
      rw [e] at h
      exact h)
    have b0 : ((tx op).toList != (tx op).toList) = false := bne_self_eq_false _
    have b1 : ((tx s).toList != (tx s).toList) = false := bne_self_eq_false _
    have b2 : ((N : Int) != (N : Int)) = false := bne_self_eq_false _
    have HRD : Hid (∀ W, Below W0.heap.size W0 W → Below W0.heap.size W0 W ∧ W.cell? ⟨w.heap.size, 0, none⟩ = some (.string (tx op)) ∧ W.cell? ⟨w.heap.size, 1, none⟩ = some (.float .f64 fn) ∧ W.cell? ⟨w.heap.size, 2, none⟩ = some (.string (tx s)) ∧ W.cell? ⟨w.heap.size, 3, none⟩ = some (.slice x N cap) ∧ W.cell? ⟨w.heap.size + 1, 0, none⟩ = some (.string (tx op)) ∧ W.cell? ⟨w.heap.size + 1, 1, none⟩ = some (.float .f64 fn) ∧ W.cell? ⟨w.heap.size + 1, 2, none⟩ = some (.string (tx s)) ∧ W.cell? ⟨w.heap.size + 1, 3, none⟩ = some (.slice x2 N cap2)) := Lib.hid (fun W hW => by
      obtain ⟨a0, a1, a2, a3, _⟩ := (HA0.out.below hW).cells
      obtain ⟨c0, c1, c2, c3, _⟩ := (HA1.out.below hW).cells
      exact ⟨hW, a0, a1, a2, a3, c0, c1, c2, c3⟩)
    go_region_held3 (fun W => Below W0.heap.size W0 W ∧ W.cell? ⟨w.heap.size, 0, none⟩ = some (.string (tx op)) ∧ W.cell? ⟨w.heap.size, 1, none⟩ = some (.float .f64 fn) ∧ W.cell? ⟨w.heap.size, 2, none⟩ = some (.string (tx s)) ∧ W.cell? ⟨w.heap.size, 3, none⟩ = some (.slice x N cap) ∧ W.cell? ⟨w.heap.size + 1, 0, none⟩ = some (.string (tx op)) ∧ W.cell? ⟨w.heap.size + 1, 1, none⟩ = some (.float .f64 fn) ∧ W.cell? ⟨w.heap.size + 1, 2, none⟩ = some (.string (tx s)) ∧ W.cell? ⟨w.heap.size + 1, 3, none⟩ = some (.slice x2 N cap2))
      (first | exact HRD.out _ (Below.refl _ _).drew | exact HRD.out _ HB3.out | exact HRD.out _ HB2.out | exact HRD.out _ HB1.out)
      (first
        | (go_at_call 22; (with_reducible refine (HSM.out _).mono ?_); rintro e y3 ⟨rfl, hb3⟩; have HB3 := Lib.hid (HB2.out.trans (below_le hb3 HB2.out.size) : Below W0.heap.size W0 y3); clear hb3)
        | (go_at_call 27; have HB1' := HB1; (with_reducible refine (rnum _ _).mono ?_); rintro e y2 ⟨rfl, hb2⟩; have HB2 := Lib.hid (HB1'.out.trans (below_le hb2 HB1'.out.size) : Below W0.heap.size W0 y2); clear hb2 HB1')
        | (go_at_call 27; (with_reducible refine (rnum _ _).mono ?_); rintro e y1 ⟨rfl, hb1⟩; have HB1 := Lib.hid ((Below.refl W0.heap.size W0).drew.trans hb1 : Below W0.heap.size W0 y1); clear hb1))
    go_wp2_with fail
    go_loopg [5] N (fun gh i wr => ∃ j : Nat, j + gh = N ∧ i = .int .i64 j ∧ Hid (Below W0.heap.size W0 wr))
    case atStart => exact ⟨0, by omega, rfl, HB3⟩
    case round =>
      obtain ⟨j, hj, rfl, HB⟩ := hrel
      obtain ⟨_, p0, p1, p2, p3, r0, r1, r2, r3⟩ := HRD.out wr HB.out
      clear HB1 HB2 HB3 HSM b0 b1 b2
      by_cases q : j < N
      · have hjl : j < l.length := by have := HNL.out; omega
        obtain ⟨a, rfl⟩ : ∃ a, x = some a := by
          cases x with
          | none => have := HX.out rfl; rw [this] at hjl; cases hjl
          | some a => exact ⟨a, rfl⟩
        obtain ⟨a2, rfl⟩ : ∃ a, x2 = some a := by
          cases x2 with
          | none => have := HX2.out rfl; rw [this] at hjl; cases hjl
          | some a => exact ⟨a, rfl⟩
        obtain ⟨u0, u1, u2, u3, d0, d1, d2, d3, hnode⟩ := NodesV.get l 0 (HC.out a rfl).2 j hjl
        obtain ⟨y0, y1, y2, y3, e0, e1, e2, e3, hnode2⟩ := NodesV.get l 0 (HC2.out a2 rfl).2 j hjl
        rw [Nat.zero_add] at d0 d1 d2 d3 e0 e1 e2 e3
        have hab : a.block < w.heap.size := ((HC.out a rfl).1 (nil_not hjl)).2
        have hab2 : a2.block < w.heap.size := ((HC2.out a2 rfl).1 (nil_not hjl)).2
        rw [add_lit _ _ _ (by decide)] at d1 d2 d3 e1 e2 e3
        obtain ⟨o1, n1, s1, x1, l1, c1, hag⟩ := hnode.agg
        cases hag
        obtain ⟨o3, n3, s3, x3, l3, c3, hag⟩ := hnode2.agg
        cases hag
        have hww : Below w.heap.size w wr := HB0.out.trans (below_le HB.out HB0.out.size)
        have HKP : Hid (∀ W, Below wr.heap.size wr W → Below wr.heap.size wr W ∧ W.cell? ⟨w.heap.size, 3, none⟩ = some (.slice (some a) N cap) ∧ W.cell? ⟨w.heap.size + 1, 3, none⟩ = some (.slice (some a2) N cap2) ∧
            W.cell? (a.add (j * 4)) = some (.string o1) ∧ W.cell? ⟨(a.add (j * 4)).block, (a.add (j * 4)).off + 1, none⟩ = some (.float .f64 n1) ∧ W.cell? ⟨(a.add (j * 4)).block, (a.add (j * 4)).off + 2, none⟩ = some (.string s1) ∧ W.cell? ⟨(a.add (j * 4)).block, (a.add (j * 4)).off + 3, none⟩ = some (.slice x1 l1 c1) ∧
            W.cell? (a2.add (j * 4)) = some (.string o3) ∧ W.cell? ⟨(a2.add (j * 4)).block, (a2.add (j * 4)).off + 1, none⟩ = some (.float .f64 n3) ∧ W.cell? ⟨(a2.add (j * 4)).block, (a2.add (j * 4)).off + 2, none⟩ = some (.string s3) ∧ W.cell? ⟨(a2.add (j * 4)).block, (a2.add (j * 4)).off + 3, none⟩ = some (.slice x3 l3 c3)) := Lib.hid (fun W hW => by
          have hw2 : Below w.heap.size w W := hww.trans (below_le hW hww.size)
          obtain ⟨_, _, _, _, k3, _, _, _, m3⟩ := HRD.out W (HB.out.trans (below_le hW HB.out.size))
          have hs : ∀ k, W.heap[(a.add k).block]? = w.heap[(a.add k).block]? := fun k => by rw [add_block]; exact hw2.block _ hab
          have hs2 : ∀ k, W.heap[(a2.add k).block]? = w.heap[(a2.add k).block]? := fun k => by rw [add_block]; exact hw2.block _ hab2
          exact ⟨hW, k3, m3, cell_same (hs _) d0, cell_same (hs (j * 4)) d1, cell_same (hs (j * 4)) d2, cell_same (hs (j * 4)) d3, cell_same (hs2 _) e0, cell_same (hs2 (j * 4)) e1, cell_same (hs2 (j * 4)) e2, cell_same (hs2 (j * 4)) e3⟩)
        have HCH : Hid (∀ W, Below wr.heap.size wr W → Calls Tryz.prog 10 #[.agg #[.string o1, .float .f64 n1, .string s1, .slice x1 l1 c1], .agg #[.string o3, .float .f64 n3, .string s3, .slice x3 l3 c3]] W fun e w' => e = .returned (.bool true) ∧ Below W.heap.size W w') := Lib.hid (fun W hW => by
          have h1 := szL_get l j hjl
          have h2 := HN.out
          have h3 := HD.out
          have hw2 : Below w.heap.size w W := hww.trans (below_le hW hww.size)
          exact HIH.out l[j] (by omega) A1 A2 _ _ W (by omega) (hnode.below hw2) (hnode2.below hw2))
        obtain ⟨_, k0, k1, k2, k3, k4, k5, k6, k7, k8, k9⟩ := HKP.out wr (Below.refl _ _)
        clear d0 d1 d2 d3 e0 e1 e2 e3 hnode hnode2 hww p0 p1 p2 r0 r1 r2 p3 r3
        go_wp2_with fail
        go_region_held3 (fun W => Below wr.heap.size wr W ∧ W.cell? ⟨w.heap.size, 3, none⟩ = some (.slice (some a) N cap) ∧ W.cell? ⟨w.heap.size + 1, 3, none⟩ = some (.slice (some a2) N cap2) ∧
            W.cell? (a.add (j * 4)) = some (.string o1) ∧ W.cell? ⟨(a.add (j * 4)).block, (a.add (j * 4)).off + 1, none⟩ = some (.float .f64 n1) ∧ W.cell? ⟨(a.add (j * 4)).block, (a.add (j * 4)).off + 2, none⟩ = some (.string s1) ∧ W.cell? ⟨(a.add (j * 4)).block, (a.add (j * 4)).off + 3, none⟩ = some (.slice x1 l1 c1) ∧
            W.cell? (a2.add (j * 4)) = some (.string o3) ∧ W.cell? ⟨(a2.add (j * 4)).block, (a2.add (j * 4)).off + 1, none⟩ = some (.float .f64 n3) ∧ W.cell? ⟨(a2.add (j * 4)).block, (a2.add (j * 4)).off + 2, none⟩ = some (.string s3) ∧ W.cell? ⟨(a2.add (j * 4)).block, (a2.add (j * 4)).off + 3, none⟩ = some (.slice x3 l3 c3))
          (first | exact HKP.out _ (Below.refl _ _).drew | exact HKP.out _ HB5.out)
          (first | (go_at_call 10; (with_reducible refine (HCH.out _ (Below.refl _ _).drew).mono ?_); rintro e w5 ⟨rfl, hb5⟩; have HB5 := Lib.hid ((Below.refl wr.heap.size wr).drew.trans hb5 : Below wr.heap.size wr w5); clear hb5))
        have HB6 := Lib.hid (HB.out.trans (below_le HB5.out HB.out.size))
        clear k0 k1 k2 k3 k4 k5 k6 k7 k8 k9 HKP HCH
        go_wp2
        go_roundg (gk - 1)
        case measure => omega
        case rel => exact ⟨j + 1, by omega, by go_num, HB6⟩
      · go_wp2
        go_ret
        exact ⟨rfl, HB0.out.trans (below_le HB.out HB0.out.size)⟩
end Go.Proofs.YtfalcmbjjlgoaaaGreatDoor
/- Walk: the law's wholes. -/
namespace Go.Proofs.YtfalcmbjjlgoaaaGreatDoor
open Go.RowKit Go.Shelf Ieee Go.Lib
attribute [local go_sem] run_store_float
mutual
/-- Are a tree's numbers within what is told. -/
def inT : Tree → Prop
  | .mk op n _ l => (op = wnum → inN n = true) ∧ inL l
def inL : List Tree → Prop
  | [] => True
  | t :: r => inT t ∧ inL r
end
theorem inL_get : ∀ (l : List Tree) (j : Nat) (hj : j < l.length), inL l → inT l[j]
  | t :: r, 0, _, h => h.1
  | t :: r, j + 1, hj, h => inL_get r j (by simpa using hj) h.2
theorem infix_num {op : Bs} (h : op = whas ∨ inO op) : op ≠ wnum := by
  rcases h with rfl | h
  · decide
  · exact (infix_facts h).2.1
theorem WF.inT {t : Tree} (h : WF parsedN t) : inT t := by
  induction h with
  | num n hn => exact ⟨fun _ => (parsed_in hn).2.2, trivial⟩
  | text s hs => exact ⟨fun e => absurd e (by decide), trivial⟩
  | name s h1 h2 => exact ⟨fun e => absurd e (by decide), trivial⟩
  | pre op a ho _ ih => exact ⟨fun e => absurd e (by rcases ho with rfl | rfl | rfl | rfl <;> decide), ih, trivial⟩
  | bin op a b ho _ _ iha ihb => exact ⟨fun e => absurd e (infix_num ho), iha, ihb, trivial⟩
theorem whoL_drop {l : List Tree} {j : Nat} (h : j < l.length) : whoL (l.drop j) = (whoT l[j] && whoL (l.drop (j + 1))) := by
  rw [List.drop_eq_getElem_cons h, whoL]
theorem rsame_num (x y : Nat) (W : World) : Calls Tryz.prog 22 #[.agg #[.int .i64 1, .float .f64 x, .string ⟨#[]⟩, .bool false], .agg #[.int .i64 1, .float .f64 y, .string ⟨#[]⟩, .bool false]] W fun e w' => e = .returned (.bool (sameN x y)) ∧ Below W.heap.size W w' := by
  have h := rSame ⟨1, x, [], false⟩ ⟨1, y, [], false⟩ W
  have e : sameV ⟨1, x, [], false⟩ ⟨1, y, [], false⟩ = sameN x y := by unfold sameV; simp
  rw [e] at h
  exact h
set_option maxRecDepth 100000 in
set_option maxHeartbeats 8000000 in
theorem wwholes : ∀ (n : Nat) (t : Tree), szT t ≤ n → ∀ (A : Nat → Prop) (v : Value) (w : World), szT t ≤ 1000000 → inT t → NodeV A w v t →
    Calls Tryz.prog 7 #[v] w fun e w' => e = .returned (.bool (whoT t)) ∧ Below w.heap.size w w' := by
  intro n
  induction n with
  | zero => intro t h; cases t; simp only [szT] at h; omega
  | succ n ih =>
    intro t hn A v w hd hin hv
    obtain ⟨op, fn, s, l⟩ := t
    obtain ⟨x, cap, rfl, hcap, hx, hch⟩ := hv
    have HIH := Lib.hid ih
    have HN := Lib.hid (show szL l ≤ n by simp only [szT] at hn; omega)
    have HD := Lib.hid (show 1 + szL l ≤ 1000000 by simpa only [szT] using hd)
    have HC := Lib.hid hch
    have HIN := Lib.hid hin
    have hll : l.length ≤ 1000000 := by have := len_szL l; have := HD.out; omega
    have HX := Lib.hid hx
    obtain ⟨R, hR⟩ : ∃ R, R = whoT (.mk op fn s l) := ⟨_, rfl⟩
    rw [← hR]
    have HR : Hid (R = ((!decide (op = wnum) || sameN fn (ofI (kN fn))) && whoL (l.drop 0))) := Lib.hid (by rw [hR]; simp only [whoT, List.drop_zero])
    obtain ⟨N, hN⟩ : ∃ N, N = l.length := ⟨_, rfl⟩
    rw [← hN] at hll hcap ⊢
    have HNL := Lib.hid hN
    have HSM := Lib.hid (fun W => rsame_num fn (ofI (kN fn)) W)
    have hcase : (op = wnum ∧ sameN fn (ofI (kN fn)) = false) ∨ op ≠ wnum ∨ (op = wnum ∧ sameN fn (ofI (kN fn)) = true) := by
      by_cases q : op = wnum
      · cases q2 : sameN fn (ofI (kN fn))
        · exact .inl ⟨q, rfl⟩
        · exact .inr (.inr ⟨q, rfl⟩)
      · exact .inr (.inl q)
    have HB0 : Hid (Below w.heap.size w (w.alloc (.cells #[.string (tx op), .float .f64 fn, .string (tx s), .slice x N cap] 25))) := Lib.hid ((Below.refl _ _).alloc (Nat.le_refl _) _)
    have HNB0 : Hid (NB (w.alloc (.cells #[.string (tx op), .float .f64 fn, .string (tx s), .slice x N cap] 25)) w.heap.size (.agg #[.string (tx op), .float .f64 fn, .string (tx s), .slice x N cap])) := Lib.hid ⟨_, _, _, _, rfl, heap_alloc_new _ _⟩
    clear hN hn hd hch hx ih hR hin
    rcases hcase with ⟨hop, hs⟩ | hop | ⟨hop, hs⟩
    · have b0 : ((tx op).toList == [110, 117, 109]) = true := by rw [hop]; exact tx_same wnum
      have hcv := conv_in fn (HIN.out.1 hop)
      have HRE : Hid (R = false) := Lib.hid (by rw [HR.out, hs, decide_eq_true hop]; rfl)
      have hk := (in_int (HIN.out.1 hop)).2
      rw [hs] at HSM
      unfold ofI at HSM
      generalize kN fn = k at hcv HSM hk
      clear hs hop HR
      go_enter Tryz.func7, Tryz.ntmps7
      go_wp2_with (first | (go_at_call 22; fail))
      go_at_call 22
      refine (HSM.out _).mono ?_
      rintro e w2 ⟨rfl, hb2⟩
      have HB2 := Lib.hid (HB0.out.trans (below_le hb2 HB0.out.size))
      clear hb2
      go_wp2
      go_ret
      exact ⟨by rw [HRE.out]; rfl, HB2.out⟩
    rotate_left
    · have b0 : ((tx op).toList == [110, 117, 109]) = true := by rw [hop]; exact tx_same wnum
      have hcv := conv_in fn (HIN.out.1 hop)
      have HRL : Hid (R = whoL (l.drop 0)) := Lib.hid (by rw [HR.out, hs, decide_eq_true hop]; rfl)
      have hk := (in_int (HIN.out.1 hop)).2
      rw [hs] at HSM
      unfold ofI at HSM
      generalize kN fn = k at hcv HSM hk
      clear hs hop HR
      go_enter Tryz.func7, Tryz.ntmps7
      go_wp2_with (first | (go_at_call 22; fail))
      go_at_call 22
      refine (HSM.out _).mono ?_
      rintro e w2 ⟨rfl, hb2⟩
      have HB2 := Lib.hid (HB0.out.trans (below_le hb2 HB0.out.size))
      have HNB2 := Lib.hid (HNB0.out.below hb2)
      clear hb2 hcv HSM hk b0 HB0 HNB0
      go_wp2_with fail
      go_loopg [3] N (fun gh i wr => ∃ j : Nat, j + gh = N ∧ i = .int .i64 j ∧ Hid (R = whoL (l.drop j)) ∧ Hid (Below w.heap.size w wr) ∧ Hid (NB wr w.heap.size (.agg #[.string (tx op), .float .f64 fn, .string (tx s), .slice x N cap])))
      case atStart => exact ⟨0, by omega, rfl, HRL, HB2, HNB2⟩
      case round =>
        obtain ⟨j, hj, rfl, HRR, HB, HNB⟩ := hrel
        obtain ⟨p0, p1, p2, p3, _⟩ := HNB.out.cells
        have hbl := HNB.out.lt
        clear HRL HB2 HNB2
        by_cases q : j < N
        · have hjl : j < l.length := by have := HNL.out; omega
          obtain ⟨a, rfl⟩ : ∃ a, x = some a := by
            cases x with
            | none => have := HX.out rfl; rw [this] at hjl; cases hjl
            | some a => exact ⟨a, rfl⟩
          obtain ⟨v0, v1, v2, v3, e0, e1, e2, e3, hnode⟩ := NodesV.get l 0 (HC.out a rfl).2 j hjl
          rw [Nat.zero_add] at e0 e1 e2 e3
          have hab : a.block < w.heap.size := ((HC.out a rfl).1 (nil_not hjl)).2
          have hs : ∀ k, wr.heap[(a.add k).block]? = w.heap[(a.add k).block]? := fun k => by rw [add_block]; exact HB.out.block _ hab
          have d0 := cell_same (hs _) e0
          have d1 := cell_same (hs _) e1
          have d2 := cell_same (hs _) e2
          have d3 := cell_same (hs _) e3
          rw [add_lit _ _ _ (by decide)] at d1 d2 d3
          clear e0 e1 e2 e3 hs
          obtain ⟨o1, n1, s1, x1, l1, c1, hag⟩ := hnode.agg
          cases hag
          have HNODE := Lib.hid hnode
          clear hnode
          have HRJ : Hid (R = (whoT l[j] && whoL (l.drop (j + 1)))) := Lib.hid (by rw [HRR.out, whoL_drop hjl])
          have HCH : Hid (∀ W, Below w.heap.size w W → Calls Tryz.prog 7 #[.agg #[.string o1, .float .f64 n1, .string s1, .slice x1 l1 c1]] W fun e w' => e = .returned (.bool (whoT l[j])) ∧ Below W.heap.size W w') := Lib.hid (fun W hW => by
            have h1 := szL_get l j hjl
            have h2 := HN.out
            have h3 := HD.out
            exact HIH.out l[j] (by omega) A _ W (by omega) (inL_get l j hjl HIN.out.2) (HNODE.out.below hW))
          cases hz : whoT l[j]
          · rw [hz] at HCH HRJ
            go_wp2_with (first | (go_at_call 7; fail))
            go_at_call 7
            refine (HCH.out _ HB.out).mono ?_
            rintro e w3 ⟨rfl, hb3⟩
            have HB3 := Lib.hid (HB.out.trans (below_le hb3 HB.out.size))
            clear hb3 d0 d1 d2 d3
            go_wp2
            go_ret
            exact ⟨by rw [HRJ.out]; rfl, HB3.out⟩
          · rw [hz] at HCH HRJ
            go_wp2_with (first | (go_at_call 7; fail))
            go_at_call 7
            refine (HCH.out _ HB.out).mono ?_
            rintro e w3 ⟨rfl, hb3⟩
            have HB3 := Lib.hid (HB.out.trans (below_le hb3 HB.out.size))
            have HNB3 := Lib.hid (HNB.out.below hb3)
            clear hb3 d0 d1 d2 d3
            go_wp2
            go_roundg (gk - 1)
            case measure => omega
            case rel => exact ⟨j + 1, by omega, by go_num, Lib.hid (by rw [HRJ.out]; rfl), HB3, HNB3⟩
        · have HRE : Hid (R = true) := Lib.hid (by rw [HRR.out, List.drop_of_length_le (by have := HNL.out; omega)]; rfl)
          go_wp2
          go_ret
          exact ⟨by rw [HRE.out]; rfl, HB.out⟩
    · have b0 : ((tx op).toList == [110, 117, 109]) = false := tx_ne hop
      have HRL : Hid (R = whoL (l.drop 0)) := Lib.hid (by rw [HR.out, decide_eq_false hop]; rfl)
      have HB2 := HB0
      have HNB2 := HNB0
      clear hop HR HSM
      go_enter Tryz.func7, Tryz.ntmps7
      go_wp2_with fail
      clear b0 HB0 HNB0
      go_loopg [3] N (fun gh i wr => ∃ j : Nat, j + gh = N ∧ i = .int .i64 j ∧ Hid (R = whoL (l.drop j)) ∧ Hid (Below w.heap.size w wr) ∧ Hid (NB wr w.heap.size (.agg #[.string (tx op), .float .f64 fn, .string (tx s), .slice x N cap])))
      case atStart => exact ⟨0, by omega, rfl, HRL, HB2, HNB2⟩
      case round =>
        obtain ⟨j, hj, rfl, HRR, HB, HNB⟩ := hrel
        obtain ⟨p0, p1, p2, p3, _⟩ := HNB.out.cells
        have hbl := HNB.out.lt
        clear HRL HB2 HNB2
        by_cases q : j < N
        · have hjl : j < l.length := by have := HNL.out; omega
          obtain ⟨a, rfl⟩ : ∃ a, x = some a := by
            cases x with
            | none => have := HX.out rfl; rw [this] at hjl; cases hjl
            | some a => exact ⟨a, rfl⟩
          obtain ⟨v0, v1, v2, v3, e0, e1, e2, e3, hnode⟩ := NodesV.get l 0 (HC.out a rfl).2 j hjl
          rw [Nat.zero_add] at e0 e1 e2 e3
          have hab : a.block < w.heap.size := ((HC.out a rfl).1 (nil_not hjl)).2
          have hs : ∀ k, wr.heap[(a.add k).block]? = w.heap[(a.add k).block]? := fun k => by rw [add_block]; exact HB.out.block _ hab
          have d0 := cell_same (hs _) e0
          have d1 := cell_same (hs _) e1
          have d2 := cell_same (hs _) e2
          have d3 := cell_same (hs _) e3
          rw [add_lit _ _ _ (by decide)] at d1 d2 d3
          clear e0 e1 e2 e3 hs
          obtain ⟨o1, n1, s1, x1, l1, c1, hag⟩ := hnode.agg
          cases hag
          have HNODE := Lib.hid hnode
          clear hnode
          have HRJ : Hid (R = (whoT l[j] && whoL (l.drop (j + 1)))) := Lib.hid (by rw [HRR.out, whoL_drop hjl])
          have HCH : Hid (∀ W, Below w.heap.size w W → Calls Tryz.prog 7 #[.agg #[.string o1, .float .f64 n1, .string s1, .slice x1 l1 c1]] W fun e w' => e = .returned (.bool (whoT l[j])) ∧ Below W.heap.size W w') := Lib.hid (fun W hW => by
            have h1 := szL_get l j hjl
            have h2 := HN.out
            have h3 := HD.out
            exact HIH.out l[j] (by omega) A _ W (by omega) (inL_get l j hjl HIN.out.2) (HNODE.out.below hW))
          cases hz : whoT l[j]
          · rw [hz] at HCH HRJ
            go_wp2_with (first | (go_at_call 7; fail))
            go_at_call 7
            refine (HCH.out _ HB.out).mono ?_
            rintro e w3 ⟨rfl, hb3⟩
            have HB3 := Lib.hid (HB.out.trans (below_le hb3 HB.out.size))
            clear hb3 d0 d1 d2 d3
            go_wp2
            go_ret
            exact ⟨by rw [HRJ.out]; rfl, HB3.out⟩
          · rw [hz] at HCH HRJ
            go_wp2_with (first | (go_at_call 7; fail))
            go_at_call 7
            refine (HCH.out _ HB.out).mono ?_
            rintro e w3 ⟨rfl, hb3⟩
            have HB3 := Lib.hid (HB.out.trans (below_le hb3 HB.out.size))
            have HNB3 := Lib.hid (HNB.out.below hb3)
            clear hb3 d0 d1 d2 d3
            go_wp2
            go_roundg (gk - 1)
            case measure => omega
            case rel => exact ⟨j + 1, by omega, by go_num, Lib.hid (by rw [HRJ.out]; rfl), HB3, HNB3⟩
        · have HRE : Hid (R = true) := Lib.hid (by rw [HRR.out, List.drop_of_length_le (by have := HNL.out; omega)]; rfl)
          go_wp2
          go_ret
          exact ⟨by rw [HRE.out]; rfl, HB.out⟩
end Go.Proofs.YtfalcmbjjlgoaaaGreatDoor
/- Walks: a rune added to the builder. -/
namespace Go.Proofs.YtfalcmbjjlgoaaaGreatDoor
open Go.RowKit Go.Shelf
theorem step_call {P : Program} {ops : Array Oper} {o : Oper} {a : Act} {w : World} {K : Act → World → Prop} {Q : Exit → Act → World → Prop} {E : Prop}
    (hg : o.guard = none) (f : FuncId) (x : Operand) (T : TypeId) (hop : o.op = Op.call { callee := Callee.value (Operand.func f), args := #[x], argTypes := #[T] }) (hent : ∀ args w, (callFunc f args).run P w = .ok (.enter f args) w)
    (v : Value) (hx : a.eval x = v) (hc : Calls P f #[v] w fun e w' => ∃ u, e = .returned u ∧ K (a.put o.dst u) w') :
    if Region.wanted o (yielded ops a.tmps) = true then Oper.wp P o a w K Q else E := by
  have hw : Region.wanted o (yielded ops a.tmps) = true := by simp [Region.wanted, hg]
  rw [if_pos hw]
  have hrun : (execOp a.eval o).run P w = .ok (.enter f #[v]) w := by
    simp [execOp, hop, resolve, invoke, hent, Act.eval, go_sem]
    rw [← hx]
    cases x <;> simp [Act.eval]
  unfold Oper.wp
  rw [hrun, Oper.upon_enter]
  refine hc.mono ?_
  rintro e w' ⟨u, rfl, hk⟩
  exact hk
/-- More bytes to the cluster under way: what stands behind the append. -/
theorem BSt.app1 {B b : Nat} {D : List Bs} {N M : Bs} {o : Bool} {w w2 w' : World} {vd v' : Value} {y : Option Addr} {d : Nat} (hlt : b < B ∧ B ≤ w.heap.size) (hop : o = true → N ++ M ≠ []) (hb : w.heap[b]? = some (.cells #[vd, .slice y N.length d, .bool o] 126 (0, 0))) (hd : w.ownsRow B 9 1 vd D.length (strs D)) (hn : w.ownsRow B 5 1 (.slice y N.length d) N.length (Lib.byteCells N))
    (hbel : Below w.heap.size w w2) (ho : w'.ownsRow B 5 1 v' (N.length + M.length) (Lib.byteCells N ++ Lib.byteCells M)) (hg : w2.grownBy w' (Value.slice y N.length d).ownBlock) :
    w'.heap[b]? = some (.cells #[vd, .slice y N.length d, .bool o] 126 (0, 0)) ∧ BSt B b D (N ++ M) o (w'.setCell ⟨b, 1, none⟩ v') ∧ Stay b B w (w'.setCell ⟨b, 1, none⟩ v') := by
  have hbl : b < w.heap.size := (Array.getElem?_eq_some_iff.1 hb).1
  have hvl : ∀ k, (Value.slice y N.length d).ownBlock = some k → B ≤ k ∧ ∃ cur, w.heap[k]? = some (.cells cur 5 (0, 0)) := fun k hk => by
    refine ⟨(hn.lt k hk).1, ?_⟩
    rcases hn.2 with ⟨hv, _⟩ | ⟨g', cap, cur, hv, _, hg', _⟩
    · rw [hv] at hk; cases hk
    · rw [hv] at hk; cases hk; exact ⟨cur, hg'⟩
  have hold : ∀ k, k < w.heap.size → (Value.slice y N.length d).ownBlock ≠ some k → w'.heap[k]? = w.heap[k]? := fun k hk hne => by
    rw [hg.block k (by have := hbel.size; omega) (fun e => hne e.symm)]
    exact hbel.block k hk
  have hbb := (hold b hbl (fun e => by have := (hvl b e).1; omega)).trans hb
  have hs := set_block (o := 1) hbb v'
  have hsz : w.heap.size ≤ w'.heap.size := Nat.le_trans hbel.size hg.size
  refine ⟨hbb, ⟨⟨vd, v', ?_, ?_, ?_⟩, ⟨hlt.1, by simp; omega⟩, hop⟩, ?_⟩
  · rw [hs]; rfl
  · refine row_kept hd (fun j hj => ?_)
    obtain ⟨h1, h2⟩ := hd.lt j hj
    rw [set_other (by omega)]
    refine hold j h2 (fun e => ?_)
    obtain ⟨_, cur, h3⟩ := hvl j e
    rcases hd.2 with ⟨hv, _⟩ | ⟨g', cap, cur', hv, _, hg', _⟩
    · rw [hv] at hj; cases hj
    · rw [hv] at hj; cases hj; rw [h3] at hg'; cases hg'
  · have h1 : (N ++ M).length = N.length + M.length := by simp
    rw [h1, Lib.byteCells_append]
    exact row_kept ho (fun j hj => set_other (by have := (ho.lt j hj).1; omega))
  · refine Stay.trans ⟨hg.os.trans hbel.os, hg.tape.trans hbel.tape, hg.output.trans hbel.output, hsz, fun j hj _ => hold j (by omega) (fun e => by have := (hvl j e).1; omega), fun j o2 ho2 hc2 => ?_⟩ (Stay.set hbb)
    rw [hold j (Array.getElem?_eq_some_iff.1 ho2).1 (fun e => by obtain ⟨_, cur, h1⟩ := hvl j e; rw [h1] at ho2; cases ho2; cases hc2)]
    exact ho2
/-- The builder is opened. -/
theorem BSt.open {B b : Nat} {D : List Bs} {N : Bs} {o : Bool} {W : World} (h : BSt B b D N o W) (hN : N ≠ []) : (∃ v, W.cell? ⟨b, 2, none⟩ = some v) ∧ W.frozen? ⟨b, 2, none⟩ = false ∧ BSt B b D N true (W.setCell ⟨b, 2, none⟩ (.bool true)) ∧ Stay b B W (W.setCell ⟨b, 2, none⟩ (.bool true)) := by
  obtain ⟨vd, vn, hb, hd, hn⟩ := h.ex
  have hs := set_block (o := 2) hb (.bool true)
  refine ⟨⟨.bool o, by simp [World.cell?, hb]⟩, by simp [World.frozen?, hb], ⟨⟨vd, vn, by rw [hs]; rfl, row_kept hd (fun j hj => set_other (by have := (hd.lt j hj).1; have := h.lt.1; omega)), row_kept hn (fun j hj => set_other (by have := (hn.lt j hj).1; have := h.lt.1; omega))⟩, ⟨h.lt.1, by simpa using h.lt.2⟩, fun _ => hN⟩, Stay.set hb⟩
theorem BSt.kept {B b : Nat} {D : List Bs} {N : Bs} {o : Bool} {W W' : World} (h : BSt B b D N o W) (hb : Below W.heap.size W W') : BSt B b D N o W' := by
  obtain ⟨vd, vn, h1, hd, hn⟩ := h.ex
  exact ⟨⟨vd, vn, (hb.block b (Array.getElem?_eq_some_iff.1 h1).1).trans h1, row_kept hd (fun j hj => hb.block j (hd.lt j hj).2), row_kept hn (fun j hj => hb.block j (hn.lt j hj).2)⟩, ⟨h.lt.1, Nat.le_trans h.lt.2 hb.size⟩, h.op⟩
theorem rb0_len (x : Int) : rb0 x ≠ [] ∧ (rb0 x).length ≤ 4 := by
  unfold rb0
  split
  · simp
  · split
    · simp
    · split <;> simp
theorem rb_ne (r : Int) : rb r ≠ [] := (rb0_len _).1
theorem rb_len (r : Int) : (rb r).length ≤ 4 := (rb0_len _).2
/-- A rune added: the clusters done, the one under way, is it open. -/
def addS (s : List Bs × Bs × Bool) (r : Int) : List Bs × Bs × Bool :=
  if 0 < ofW r then (if s.2.2 = true then s.1 ++ [s.2.1] else s.1, rb r, true)
  else if s.2.2 = true ∧ isMk r = true ∧ s.2.1.length + (rb r).length ≤ 64 then (s.1, s.2.1 ++ rb r, true) else s
theorem byteCells_one (l : Bs) : ∀ u ∈ Lib.byteCells l, u.oneCell' = true := by
  intro u hu
  unfold Lib.byteCells at hu
  obtain ⟨x, _, rfl⟩ := List.mem_map.1 hu
  rfl
theorem row_at {w : World} {g : Nat} {l : Bs} {t : TypeId} (h : w.heap[g]? = some (.cells (Lib.byteCells l).toArray t (0, 0))) : ∀ j u, (Lib.byteCells l)[j]? = some u → w.cell? ((⟨g, 0, none⟩ : Addr).add j) = some u := fun j u hu => by
  have h4 : (⟨g, 0, none⟩ : Addr).add j = ⟨g, j, none⟩ := by by_cases e : j = 0 <;> simp [Addr.add, e]
  rw [h4]
  simpa [World.cell?, h] using hu
set_option maxRecDepth 100000 in
set_option maxHeartbeats 4000000 in
theorem wadd_base (B b : Nat) (D : List Bs) (N : Bs) (o : Bool) (r : Int) (hDl : D.length ≤ 999999) (hbase : 0 < ofW r) (w : World) (h : BSt B b D N o w) :
    Calls Tryz.prog 108 #[.pointer (some ⟨b, 0, none⟩), .int .i32 r] w fun e w' => e = .returned (.tuple #[]) ∧ BSt B b (if o = true then D ++ [N] else D) (rb r) true w' ∧ Stay b B w w' := by
  obtain ⟨i0, hi, hz0, hz1, hz2⟩ := info_parts5
  have HLT := Lib.hid h.lt
  have HB := Lib.hid (wisBase r)
  rw [decide_eq_true hbase] at HB
  have HEND : Hid (∀ W, BSt B b D N o W → Calls Tryz.prog 109 #[.pointer (some ⟨b, 0, none⟩)] W fun e w' => e = .returned (.tuple #[]) ∧ BSt B b (if o = true then D ++ [N] else D) [] false w' ∧ Stay b B W w') := Lib.hid (fun W hW => by
    cases o
    · exact wend0 B b D N W hW
    · exact wend1 B b D N (by omega) W hW)
  have HBY := Lib.hid (wbytes r)
  unfold BytesEnd at HBY
  have HNE := Lib.hid (rb_ne r)
  have HLN := Lib.hid (rb_len r)
  obtain ⟨M, hM⟩ : ∃ M, M = rb r := ⟨_, rfl⟩
  obtain ⟨D2, hD2⟩ : ∃ M, M = (if o = true then D ++ [N] else D) := ⟨_, rfl⟩
  rw [← hM] at HBY HNE HLN ⊢
  rw [← hD2] at HEND ⊢
  have H0 := Lib.hid h
  clear hM hD2 h hbase
  go_enter Tryz.func108, Tryz.ntmps108
  go_wp2_with (first | (go_at_call 117; fail))
  go_at_call 117
  refine (HB.out _).mono ?_
  rintro e w1 ⟨rfl, hb1⟩
  have HW1 := Lib.hid hb1
  clear hb1
  go_wp2_with (first | (go_at_call 109; fail))
  go_at_call 109
  refine (HEND.out _ (H0.out.kept HW1.out)).mono ?_
  rintro e w2 ⟨rfl, hB2, hS2⟩
  have HS2 := Lib.hid ((Stay.of HW1.out H0.out.lt.2).trans hS2)
  have HL2 := Lib.hid hB2.lt
  clear HEND H0 HB HW1 hS2
  obtain ⟨vd, vn, hb, hd, hn⟩ := hB2.ex
  obtain ⟨y, d, rfl⟩ := ownsRow_is hn
  have c1 : w2.cell? ⟨b, 1, none⟩ = some (.slice y 0 d) := by simp [World.cell?, hb]
  have f1 : w2.frozen? ⟨b, 1, none⟩ = false := by simp [World.frozen?, hb]
  have hbl : b < w2.heap.size := (Array.getElem?_eq_some_iff.1 hb).1
  have HA := Lib.hid (fun (w3 w4 : World) (v' : Value) h1 h2 h3 => BSt.app1 (N := []) (M := M) (w := w2) (w2 := w3) (w' := w4) (v' := v') HL2.out (fun h => by cases h) hb hd hn h1 h2 h3)
  have HN2 := Lib.hid (show w2.ownsRow B 5 1 (.slice y 0 d) 0 [] from hn)
  clear hB2 hb hd hn
  go_upto_region 2 with (fail)
  go_region_law (first | (refine step_call rfl 118 (.tmp 14) 21 rfl (enters_of Tryz.func118 (by kernel_rfl) rfl) (.int .i32 r) rfl ?_; refine (HBY.out _).mono ?_; rintro e w3 ⟨g3, rfl, hr3, hge3, hb3⟩; refine ⟨_, rfl, ?_⟩; have HB3 : Hid (Below w2.heap.size w2 w3) := Lib.hid ((Below.refl _ _).drew.trans hb3); have c13 : w3.cell? ⟨b, 1, none⟩ = some (.slice y 0 d) := (HB3.out.cell (p := ⟨b, 1, none⟩) hbl).trans c1; have HR3 := Lib.hid hr3; clear hr3 hge3 hb3) | (refine step_append_own rfl (.tmp 13) (.tmp 15) 83 rfl B 5 i0 (.int .u8 0) 1 1 Tryz.underlying83 hi hz0 hz1 hz2 rfl (by decide) _ _ _ rfl (row_kept HN2.out (fun j hj => HB3.out.block j (HN2.out.lt j hj).2)) ⟨g3, 0, none⟩ M.length M.length (Lib.byteCells M) rfl (by simp [Lib.byteCells]) (row_at HR3.out) (byteCells_one M) (by unfold maxLen; have := HLN.out; omega) (by have := HLN.out; omega) (by have := HL2.out; have := HB3.out.size; omega) ?_; intro v' w4 hown' hgrow' _; obtain ⟨hb', hB', hS'⟩ := HA.out w3 w4 v' HB3.out hown' hgrow'; have HS' := Lib.hid (And.intro hB' hS'); have c14 : w4.cell? ⟨b, 1, none⟩ = some (.slice y 0 d) := (by simp [World.cell?, hb']); have f14 : w4.frozen? ⟨b, 1, none⟩ = false := (by simp [World.frozen?, hb']); obtain ⟨x', c', rfl⟩ := ownsRow_is hown'; clear hb' hB' hS' hown' hgrow'))
  all_goals
    simp only [List.nil_append, Nat.zero_add] at HS'
    clear c1 f1 c13 c14 f14
    generalize w4.setCell ⟨b, 1, none⟩ (Value.slice x' M.length c') = W5 at HS' ⊢
    obtain ⟨⟨v5, c5⟩, f5, hO, hSO⟩ := HS'.out.1.open HNE.out
    have HO := Lib.hid hO
    have HSO := Lib.hid ((HS2.out.trans HS'.out.2).trans hSO)
    clear hO hSO
    go_wp2
    first | go_end0 | refine bodyPost_ret (results_none rfl _ _ _) rfl ?_
    exact ⟨rfl, HO.out, HSO.out⟩
set_option maxRecDepth 100000 in
set_option maxHeartbeats 4000000 in
theorem wadd_mark (B b : Nat) (D : List Bs) (N : Bs) (o : Bool) (r : Int) (hNl : N.length ≤ 1000000) (hbase : ¬ 0 < ofW r) (w : World) (h : BSt B b D N o w) :
    Calls Tryz.prog 108 #[.pointer (some ⟨b, 0, none⟩), .int .i32 r] w fun e w' => e = .returned (.tuple #[]) ∧ BSt B b D (if o = true ∧ isMk r = true ∧ N.length + (rb r).length ≤ 64 then N ++ rb r else N) o w' ∧ Stay b B w w' := by
  obtain ⟨i0, hi, hz0, hz1, hz2⟩ := info_parts5
  have HLT := Lib.hid h.lt
  have HB := Lib.hid (wisBase r)
  rw [decide_eq_false hbase] at HB
  have HMK := Lib.hid (wisMark r)
  have HBY := Lib.hid (wbytes r)
  unfold BytesEnd at HBY
  have HLN := Lib.hid (rb_len r)
  obtain ⟨M, hM⟩ : ∃ M, M = rb r := ⟨_, rfl⟩
  obtain ⟨K, hK⟩ : ∃ M, M = isMk r := ⟨_, rfl⟩
  rw [← hM] at HBY HLN ⊢
  rw [← hK] at HMK ⊢
  have hMl := HLN.out
  obtain ⟨N2, hN2⟩ : ∃ X, X = (if o = true ∧ K = true ∧ N.length + M.length ≤ 64 then N ++ M else N) := ⟨_, rfl⟩
  rw [← hN2]
  have HN2 := Lib.hid hN2
  have H0 := Lib.hid h
  clear hM hK h hbase hN2
  go_enter Tryz.func108, Tryz.ntmps108
  go_wp2_with (first | (go_at_call 117; fail))
  go_at_call 117
  refine (HB.out _).mono ?_
  rintro e w1 ⟨rfl, hb1⟩
  have H1 := Lib.hid (H0.out.kept hb1)
  have HS1 := Lib.hid (Stay.of (b := b) hb1 H0.out.lt.2)
  clear hb1 HB
  obtain ⟨vd, vn, hb, hd, hn⟩ := H1.out.ex
  obtain ⟨y, d, rfl⟩ := ownsRow_is hn
  have c1 : w1.cell? ⟨b, 1, none⟩ = some (.slice y N.length d) := by simp [World.cell?, hb]
  have c2 : w1.cell? ⟨b, 2, none⟩ = some (.bool o) := by simp [World.cell?, hb]
  have hbl : b < w1.heap.size := (Array.getElem?_eq_some_iff.1 hb).1
  have HL1 := Lib.hid H1.out.lt
  have HOP := Lib.hid H1.out.op
  have HA := Lib.hid (fun (w3 w4 : World) (v' : Value) h1 h2 h3 => BSt.app1 (M := M) (w := w1) (w2 := w3) (w' := w4) (v' := v') HL1.out (fun h e => HOP.out h (List.append_eq_nil_iff.1 e).1) hb hd hn h1 h2 h3)
  have HN1 := Lib.hid hn
  clear hb hd hn
  cases o
  · have HV : Hid (N2 = N) := Lib.hid (by have := HN2.out; simpa using this)
    go_wp2
    first | go_end0 | refine bodyPost_ret (results_none rfl _ _ _) rfl ?_
    rw [HV.out]
    exact ⟨rfl, H1.out, HS1.out⟩
  · go_wp2_with (first | (go_at_call 119; fail))
    go_at_call 119
    refine (HMK.out _).mono ?_
    rintro e w2 ⟨rfl, hb2⟩
    have HB2 := Lib.hid hb2
    have c21 : w2.cell? ⟨b, 1, none⟩ = some (.slice y N.length d) := (hb2.cell (p := ⟨b, 1, none⟩) hbl).trans c1
    clear hb2 c1 c2
    cases K
    · have H2 := Lib.hid (And.intro (H1.out.kept HB2.out) (HS1.out.trans (Stay.of (b := b) HB2.out H1.out.lt.2)))
      have HV : Hid (N2 = N) := Lib.hid (by have := HN2.out; simpa using this)
      go_wp2
      first | go_end0 | refine bodyPost_ret (results_none rfl _ _ _) rfl ?_
      rw [HV.out]
      exact ⟨rfl, H2.out.1, H2.out.2⟩
    · go_wp2_with (first | (go_at_call 118; fail))
      go_at_call 118
      refine (HBY.out _).mono ?_
      rintro e w3 ⟨g3, rfl, hr3, hge3, hb3⟩
      have HB3 := Lib.hid (HB2.out.trans (below_le hb3 HB2.out.size))
      have HR3 := Lib.hid hr3
      have c31 : w3.cell? ⟨b, 1, none⟩ = some (.slice y N.length d) := (HB3.out.cell (p := ⟨b, 1, none⟩) hbl).trans (by
        have := HB2.out.cell (p := ⟨b, 1, none⟩) hbl
        rw [← this]; exact c21)
      clear hr3 hge3 hb3 c21
      by_cases h64 : N.length + M.length ≤ 64
      · go_wp2_with (first | (at_builtin; go_loud (refine wpList_append_own _ rfl _ _ 83 rfl B 5 i0 (.int .u8 0) 1 1 Tryz.underlying83 hi hz0 hz1 hz2 rfl (by decide) _ _ _ rfl (row_kept HN1.out (fun j hj => HB3.out.block j (HN1.out.lt j hj).2)) ⟨g3, 0, none⟩ M.length M.length (Lib.byteCells M) rfl (by simp [Lib.byteCells]) (row_at HR3.out) (byteCells_one M) (by unfold maxLen; have := HLN.out; omega) (by have := HLN.out; omega) (by have := HL1.out; have := HB3.out.size; omega) ?_)))
        intro v' w4 hown' hgrow' _
        have HV : Hid (N2 = N ++ M) := Lib.hid (by rw [HN2.out]; simp [h64])
        obtain ⟨hb', hB', hS'⟩ := HA.out w3 w4 v' HB3.out hown' hgrow'
        have HS' := Lib.hid (And.intro hB' (HS1.out.trans hS'))
        have c14 : w4.cell? ⟨b, 1, none⟩ = some (.slice y N.length d) := by simp [World.cell?, hb']
        have f14 : w4.frozen? ⟨b, 1, none⟩ = false := by simp [World.frozen?, hb']
        obtain ⟨x', c', rfl⟩ := ownsRow_is hown'
        clear hb' hB' hS' hown' hgrow' c31
        go_wp2
        first | go_end0 | refine bodyPost_ret (results_none rfl _ _ _) rfl ?_
        rw [HV.out]
        exact ⟨rfl, HS'.out.1, HS'.out.2⟩
      · have H3 := Lib.hid (And.intro (H1.out.kept HB3.out) (HS1.out.trans (Stay.of (b := b) HB3.out H1.out.lt.2)))
        have h64' : ¬ (N.length : Int) + (M.length : Int) ≤ 64 := by omega
        have HV : Hid (N2 = N) := Lib.hid (by rw [HN2.out, if_neg (fun h => h64 h.2.2)])
        go_wp2
        first | go_end0 | refine bodyPost_ret (results_none rfl _ _ _) rfl ?_
        rw [HV.out]
        exact ⟨rfl, H3.out.1, H3.out.2⟩
/-- A rune added. -/
theorem wadd (B b : Nat) (s : List Bs × Bs × Bool) (r : Int) (hDl : s.1.length ≤ 999999) (hNl : s.2.1.length ≤ 1000000) (w : World) (h : BSt B b s.1 s.2.1 s.2.2 w) :
    Calls Tryz.prog 108 #[.pointer (some ⟨b, 0, none⟩), .int .i32 r] w fun e w' => e = .returned (.tuple #[]) ∧ BSt B b (addS s r).1 (addS s r).2.1 (addS s r).2.2 w' ∧ Stay b B w w' := by
  unfold addS
  by_cases h0 : 0 < ofW r
  · rw [if_pos h0]
    exact wadd_base B b s.1 s.2.1 s.2.2 r hDl h0 w h
  · rw [if_neg h0]
    refine (wadd_mark B b s.1 s.2.1 s.2.2 r hNl h0 w h).mono ?_
    rintro e w' ⟨h1, h2, h3⟩
    refine ⟨h1, ?_, h3⟩
    split
    · rename_i hc
      rw [if_pos hc, hc.1] at h2
      exact h2
    · rename_i hc
      rw [if_neg hc] at h2
      exact h2
end Go.Proofs.YtfalcmbjjlgoaaaGreatDoor
