/- Own texts, merged: S9, SA, V7. -/
import Derived.Test.YtfalcmbjjlgoaaaGreatDoorMT38
import Derived.Test.YtfalcmbjjlgoaaaGreatDoorMT39
import Derived.Test.YtfalcmbjjlgoaaaGreatDoorShelfB
/- Walk: both, over the Ops told apart (printed by gen_s9.py). -/
namespace Go.Proofs.YtfalcmbjjlgoaaaGreatDoor
open Go.RowKit Go.Shelf Ieee
attribute [local go_sem] run_store_float
/-- A variable that strings.Contains reads. -/
def MaxLn (m : Int) (w : World) : Prop := w.cell? ⟨1, 0, none⟩ = some (.int .i64 m)
theorem MaxLn.below {m : Int} {w w' : World} (h : MaxLn m w) (hb : Below w.heap.size w w') : MaxLn m w' := cell_same (hb.block _ (cell_lt h)) h
theorem MaxLn.drew {m : Int} {w : World} (h : MaxLn m w) : MaxLn m w.drew := h
/-- What both holds: its parts and its result's variable. -/
structure BI (w : World) (a0 a1 a2 a3 b0 b1 b2 b3 : Value) (m : Int) (W : World) : Prop where
  a : VB W w.heap.size a0 a1 a2 a3
  b : VB W (w.heap.size + 1) b0 b1 b2 b3
  r : VB W (w.heap.size + 2) (.int .i64 0) (.float .f64 0) (.string ⟨#[]⟩) (.bool false)
  bel : Below w.heap.size w W
  mx : MaxLn m W
theorem BI.start {w : World} {m : Int} (hm : MaxLn m w) (a0 a1 a2 a3 b0 b1 b2 b3 : Value) :
    BI w a0 a1 a2 a3 b0 b1 b2 b3 m (((w.alloc (.cells #[a0, a1, a2, a3] 51)).alloc (.cells #[b0, b1, b2, b3] 51)).alloc (.cells #[.int .i64 0, .float .f64 0, .string ⟨#[]⟩, .bool false] 51)) := by
  have h1 : VB (w.alloc (.cells #[a0, a1, a2, a3] 51)) w.heap.size a0 a1 a2 a3 := heap_alloc_new _ _
  have h2 : VB ((w.alloc (.cells #[a0, a1, a2, a3] 51)).alloc (.cells #[b0, b1, b2, b3] 51)) (w.heap.size + 1) b0 b1 b2 b3 := by
    have := heap_alloc_new (w.alloc (.cells #[a0, a1, a2, a3] 51)) (.cells #[b0, b1, b2, b3] 51)
    simpa [VB] using this
  have h3 : VB (((w.alloc (.cells #[a0, a1, a2, a3] 51)).alloc (.cells #[b0, b1, b2, b3] 51)).alloc (.cells #[.int .i64 0, .float .f64 0, .string ⟨#[]⟩, .bool false] 51)) (w.heap.size + 2) (.int .i64 0) (.float .f64 0) (.string ⟨#[]⟩) (.bool false) := by
    have := heap_alloc_new ((w.alloc (.cells #[a0, a1, a2, a3] 51)).alloc (.cells #[b0, b1, b2, b3] 51)) (.cells #[.int .i64 0, .float .f64 0, .string ⟨#[]⟩, .bool false] 51)
    simpa [VB] using this
  have k1 : ∀ (W : World) o, Below W.heap.size W (W.alloc o) := fun W o => (Below.refl _ _).alloc (Nat.le_refl _) _
  have hb : Below w.heap.size w (((w.alloc (.cells #[a0, a1, a2, a3] 51)).alloc (.cells #[b0, b1, b2, b3] 51)).alloc (.cells #[.int .i64 0, .float .f64 0, .string ⟨#[]⟩, .bool false] 51)) := (((Below.refl _ _).alloc (Nat.le_refl _) _).alloc (by simp) _).alloc (by simp; omega) _
  exact ⟨(h1.below (k1 _ _)).below (k1 _ _), h2.below (k1 _ _), h3, hb, hm.below hb⟩
theorem BI.below {w : World} {a0 a1 a2 a3 b0 b1 b2 b3 : Value} {m : Int} {W W' : World} (h : BI w a0 a1 a2 a3 b0 b1 b2 b3 m W) (hb : Below W.heap.size W W') : BI w a0 a1 a2 a3 b0 b1 b2 b3 m W' :=
  ⟨h.a.below hb, h.b.below hb, h.r.below hb, h.bel.trans (below_le hb h.bel.size), h.mx.below hb⟩
theorem BI.drew {w : World} {a0 a1 a2 a3 b0 b1 b2 b3 : Value} {m : Int} {W : World} (h : BI w a0 a1 a2 a3 b0 b1 b2 b3 m W) : BI w a0 a1 a2 a3 b0 b1 b2 b3 m W.drew := h.below (Below.refl _ _).drew
theorem BI.fin {w : World} {a0 a1 a2 a3 b0 b1 b2 b3 : Value} {m : Int} {W W' : World} (h : BI w a0 a1 a2 a3 b0 b1 b2 b3 m W) {A B : Av} (hAB : B = A) {v : Value} (hv : ValV v A) (hb : Below W.heap.size W W') :
    VB W' (w.heap.size + 2) (.int .i64 0) (.float .f64 0) (.string ⟨#[]⟩) (.bool false) ∧ ∃ n, v = .agg #[.int .i64 A.t, .float .f64 n, .string (tx A.s), .bool A.b] ∧
      VB (putN W' (w.heap.size + 2) (.int .i64 A.t) (.float .f64 n) (.string (tx A.s)) (.bool A.b)) (w.heap.size + 2) (.int .i64 A.t) (.float .f64 n) (.string (tx A.s)) (.bool A.b) ∧
      VEnd B w (.returned (.agg #[.int .i64 A.t, .float .f64 n, .string (tx A.s), .bool A.b])) (putN W' (w.heap.size + 2) (.int .i64 A.t) (.float .f64 n) (.string (tx A.s)) (.bool A.b)) := by
  obtain ⟨n, rfl, hn⟩ := hv
  have h2 := h.below hb
  subst hAB
  exact ⟨h2.r, n, rfl, h2.r.put, below_put h2.bel (by omega), _, rfl, n, rfl, hn⟩
set_option maxRecDepth 100000 in
set_option maxHeartbeats 16000000 in
theorem wboth (op : Bs) (hop : takesT op = some 2) (va vb : Value) (a b : Av) (m : Int) (hs : a.s.length ≤ 1000000) (w : World) (ha : ValV va a) (hb : ValV vb b) (hm : MaxLn m w) : Calls Tryz.prog 83 #[.string (tx op), va, vb] w (VEnd (twoA op a b) w) := by
  obtain ⟨na, rfl, h1⟩ := ha
  obtain ⟨nb, rfl, h2⟩ := hb
  have HBI := Lib.hid (BI.start hm (.int .i64 a.t) (.float .f64 na) (.string (tx a.s)) (.bool a.b) (.int .i64 b.t) (.float .f64 nb) (.string (tx b.s)) (.bool b.b))
  have HTR := Lib.hid (fun c W => wtruthV c W)
  have HNM := Lib.hid (fun c W => wnumV c W)
  have HEQ : Hid (∀ W, Calls Tryz.prog 99 #[.agg #[.int .i64 a.t, .float .f64 na, .string (tx a.s), .bool a.b], .agg #[.int .i64 b.t, .float .f64 nb, .string (tx b.s), .bool b.b]] W fun e w' => e = .returned (.bool (eqA a b)) ∧ Below W.heap.size W w') := Lib.hid (fun W => wequalV _ _ a b W ⟨na, rfl, h1⟩ ⟨nb, rfl, h2⟩)
  have HCT : Hid (∀ W, MaxLn m W → Calls Tryz.prog 98 #[.string (tx a.s), .string (tx b.s)] W fun e w' => e = .returned (.bool (Lib.contains a.s b.s)) ∧ w' = W) := Lib.hid (fun W hW => by
    have h := Tryz.strings_Contains (tx a.s) (tx b.s) m W (by rw [tx_size']; omega) hW
    have e1 : (tx a.s).data.toList = a.s := by simp [tx]
    have e2 : (tx b.s).data.toList = b.s := by simp [tx]
    rw [e1, e2] at h
    exact h)
  obtain ⟨R, hR⟩ : ∃ R, R = twoA op a b := ⟨_, rfl⟩
  rw [← hR]
  have HH1 := Lib.hid h1
  have HH2 := Lib.hid h2
  clear h1 h2 hm
  rcases opcases op with ⟨ho, b0, b1, b2, b3, b4, b5, b6, b7, b8, b9, b10, b11, b12, b13, b14, b15, b16, b17, b18, b19⟩ | ⟨ho, b0, b1, b2, b3, b4, b5, b6, b7, b8, b9, b10, b11, b12, b13, b14, b15, b16, b17, b18, b19⟩ | ⟨ho, b0, b1, b2, b3, b4, b5, b6, b7, b8, b9, b10, b11, b12, b13, b14, b15, b16, b17, b18, b19⟩ | ⟨ho, b0, b1, b2, b3, b4, b5, b6, b7, b8, b9, b10, b11, b12, b13, b14, b15, b16, b17, b18, b19⟩ | ⟨ho, b0, b1, b2, b3, b4, b5, b6, b7, b8, b9, b10, b11, b12, b13, b14, b15, b16, b17, b18, b19⟩ | ⟨ho, b0, b1, b2, b3, b4, b5, b6, b7, b8, b9, b10, b11, b12, b13, b14, b15, b16, b17, b18, b19⟩ | ⟨ho, b0, b1, b2, b3, b4, b5, b6, b7, b8, b9, b10, b11, b12, b13, b14, b15, b16, b17, b18, b19⟩ | ⟨ho, b0, b1, b2, b3, b4, b5, b6, b7, b8, b9, b10, b11, b12, b13, b14, b15, b16, b17, b18, b19⟩ | ⟨ho, b0, b1, b2, b3, b4, b5, b6, b7, b8, b9, b10, b11, b12, b13, b14, b15, b16, b17, b18, b19⟩ | ⟨ho, b0, b1, b2, b3, b4, b5, b6, b7, b8, b9, b10, b11, b12, b13, b14, b15, b16, b17, b18, b19⟩ | ⟨ho, b0, b1, b2, b3, b4, b5, b6, b7, b8, b9, b10, b11, b12, b13, b14, b15, b16, b17, b18, b19⟩ | ⟨ho, b0, b1, b2, b3, b4, b5, b6, b7, b8, b9, b10, b11, b12, b13, b14, b15, b16, b17, b18, b19⟩ | ⟨ho, b0, b1, b2, b3, b4, b5, b6, b7, b8, b9, b10, b11, b12, b13, b14, b15, b16, b17, b18, b19⟩ | ⟨ho, b0, b1, b2, b3, b4, b5, b6, b7, b8, b9, b10, b11, b12, b13, b14, b15, b16, b17, b18, b19⟩ | ⟨ho, b0, b1, b2, b3, b4, b5, b6, b7, b8, b9, b10, b11, b12, b13, b14, b15, b16, b17, b18, b19⟩ | ⟨ho, b0, b1, b2, b3, b4, b5, b6, b7, b8, b9, b10, b11, b12, b13, b14, b15, b16, b17, b18, b19⟩ | ⟨ho, b0, b1, b2, b3, b4, b5, b6, b7, b8, b9, b10, b11, b12, b13, b14, b15, b16, b17, b18, b19⟩ | ⟨ho, b0, b1, b2, b3, b4, b5, b6, b7, b8, b9, b10, b11, b12, b13, b14, b15, b16, b17, b18, b19⟩ | ⟨ho, b0, b1, b2, b3, b4, b5, b6, b7, b8, b9, b10, b11, b12, b13, b14, b15, b16, b17, b18, b19⟩ | ⟨ho, b0, b1, b2, b3, b4, b5, b6, b7, b8, b9, b10, b11, b12, b13, b14, b15, b16, b17, b18, b19⟩ | ⟨ho, b0, b1, b2, b3, b4, b5, b6, b7, b8, b9, b10, b11, b12, b13, b14, b15, b16, b17, b18, b19⟩
  · subst ho; exact absurd hop (by decide)
  · subst ho; exact absurd hop (by decide)
  · subst ho; exact absurd hop (by decide)
  · subst ho; exact absurd hop (by decide)
  · subst ho; exact absurd hop (by decide)
  · subst ho; exact absurd hop (by decide)
  · subst ho; exact absurd hop (by decide)
  · clear hop
    have hM : twoA op a b = avB (a.b || b.b) := by subst ho; unfold twoA; rw [if_pos (by decide)]
    rw [hM] at hR
    clear HCT HEQ HNM HH1 HH2 ho hM hs
    obtain ⟨AB, hAB⟩ : ∃ x, x = a.b := ⟨_, rfl⟩
    obtain ⟨BB, hBB⟩ : ∃ x, x = b.b := ⟨_, rfl⟩
    rw [← hAB, ← hBB] at hR
    rw [← hAB, ← hBB] at HBI
    rw [← hAB, ← hBB]
    clear hAB hBB
    cases AB
    · have HM : Hid (R = avB BB) := Lib.hid (by rw [hR]; rfl)
      clear hR
      generalize tx op = T at *
      generalize a.t = at' at *
      generalize b.t = bt' at *
      generalize tx a.s = as' at *
      generalize tx b.s = bs' at *
      go_enter Tryz.func83, Tryz.ntmps83
      go_upto_region 1 with (fail)
      generalize (((w.alloc (.cells #[.int .i64 at', .float .f64 na, .string as', .bool false] 51)).alloc (.cells #[.int .i64 bt', .float .f64 nb, .string bs', .bool BB] 51)).alloc (.cells #[.int .i64 0, .float .f64 0, .string ⟨#[]⟩, .bool false] 51)) = W0 at HBI ⊢
      obtain ⟨c0, c1, c2, c3⟩ := HBI.out.a.cells
      obtain ⟨d0, d1, d2, d3⟩ := HBI.out.b.cells
      go_wp2_with (first | (go_at_call 80; fail))
      go_at_call 80
      refine (HTR.out _ _).mono ?_
      rintro e w5 ⟨hb5, v5, rfl, hv5⟩
      obtain ⟨hz, n5, rfl, hz2, hend⟩ := BI.fin HBI.out HM.out hv5 hb5
      have HE := Lib.hid (And.intro hz2 hend)
      obtain ⟨k0, k1, k2, k3⟩ := hz.cells
      have f0 := hz.fr 0
      have f1 := hz.fr 1
      have f2 := hz.fr 2
      have f3 := hz.fr 3
      clear hz hz2 hend hb5 hv5
      go_wp2
      exact bodyPost_ret (val_res rfl _ _ (w.heap.size + 2) _ _ _ _ rfl HE.out.1) rfl HE.out.2
    · have HM : Hid (R = avB true) := Lib.hid (by rw [hR]; rfl)
      clear hR
      generalize tx op = T at *
      generalize a.t = at' at *
      generalize b.t = bt' at *
      generalize tx a.s = as' at *
      generalize tx b.s = bs' at *
      go_enter Tryz.func83, Tryz.ntmps83
      go_upto_region 1 with (fail)
      generalize (((w.alloc (.cells #[.int .i64 at', .float .f64 na, .string as', .bool true] 51)).alloc (.cells #[.int .i64 bt', .float .f64 nb, .string bs', .bool BB] 51)).alloc (.cells #[.int .i64 0, .float .f64 0, .string ⟨#[]⟩, .bool false] 51)) = W0 at HBI ⊢
      obtain ⟨c0, c1, c2, c3⟩ := HBI.out.a.cells
      obtain ⟨d0, d1, d2, d3⟩ := HBI.out.b.cells
      go_wp2_with (first | (go_at_call 80; fail))
      go_at_call 80
      refine (HTR.out _ _).mono ?_
      rintro e w5 ⟨hb5, v5, rfl, hv5⟩
      obtain ⟨hz, n5, rfl, hz2, hend⟩ := BI.fin HBI.out HM.out hv5 hb5
      have HE := Lib.hid (And.intro hz2 hend)
      obtain ⟨k0, k1, k2, k3⟩ := hz.cells
      have f0 := hz.fr 0
      have f1 := hz.fr 1
      have f2 := hz.fr 2
      have f3 := hz.fr 3
      clear hz hz2 hend hb5 hv5
      go_wp2
      exact bodyPost_ret (val_res rfl _ _ (w.heap.size + 2) _ _ _ _ rfl HE.out.1) rfl HE.out.2
  · clear hop
    have hM : twoA op a b = avB (a.b && b.b) := by subst ho; unfold twoA; rw [if_neg (by decide), if_pos (by decide)]
    rw [hM] at hR
    clear HCT HEQ HNM HH1 HH2 ho hM hs
    obtain ⟨AB, hAB⟩ : ∃ x, x = a.b := ⟨_, rfl⟩
    obtain ⟨BB, hBB⟩ : ∃ x, x = b.b := ⟨_, rfl⟩
    rw [← hAB, ← hBB] at hR
    rw [← hAB, ← hBB] at HBI
    rw [← hAB, ← hBB]
    clear hAB hBB
    cases AB
    · have HM : Hid (R = avB false) := Lib.hid (by rw [hR]; rfl)
      clear hR
      generalize tx op = T at *
      generalize a.t = at' at *
      generalize b.t = bt' at *
      generalize tx a.s = as' at *
      generalize tx b.s = bs' at *
      go_enter Tryz.func83, Tryz.ntmps83
      go_upto_region 1 with (fail)
      generalize (((w.alloc (.cells #[.int .i64 at', .float .f64 na, .string as', .bool false] 51)).alloc (.cells #[.int .i64 bt', .float .f64 nb, .string bs', .bool BB] 51)).alloc (.cells #[.int .i64 0, .float .f64 0, .string ⟨#[]⟩, .bool false] 51)) = W0 at HBI ⊢
      obtain ⟨c0, c1, c2, c3⟩ := HBI.out.a.cells
      obtain ⟨d0, d1, d2, d3⟩ := HBI.out.b.cells
      go_wp2_with (first | (go_at_call 80; fail))
      go_at_call 80
      refine (HTR.out _ _).mono ?_
      rintro e w5 ⟨hb5, v5, rfl, hv5⟩
      obtain ⟨hz, n5, rfl, hz2, hend⟩ := BI.fin HBI.out HM.out hv5 hb5
      have HE := Lib.hid (And.intro hz2 hend)
      obtain ⟨k0, k1, k2, k3⟩ := hz.cells
      have f0 := hz.fr 0
      have f1 := hz.fr 1
      have f2 := hz.fr 2
      have f3 := hz.fr 3
      clear hz hz2 hend hb5 hv5
      go_wp2
      exact bodyPost_ret (val_res rfl _ _ (w.heap.size + 2) _ _ _ _ rfl HE.out.1) rfl HE.out.2
    · have HM : Hid (R = avB BB) := Lib.hid (by rw [hR]; rfl)
      clear hR
      generalize tx op = T at *
      generalize a.t = at' at *
      generalize b.t = bt' at *
      generalize tx a.s = as' at *
      generalize tx b.s = bs' at *
      go_enter Tryz.func83, Tryz.ntmps83
      go_upto_region 1 with (fail)
      generalize (((w.alloc (.cells #[.int .i64 at', .float .f64 na, .string as', .bool true] 51)).alloc (.cells #[.int .i64 bt', .float .f64 nb, .string bs', .bool BB] 51)).alloc (.cells #[.int .i64 0, .float .f64 0, .string ⟨#[]⟩, .bool false] 51)) = W0 at HBI ⊢
      obtain ⟨c0, c1, c2, c3⟩ := HBI.out.a.cells
      obtain ⟨d0, d1, d2, d3⟩ := HBI.out.b.cells
      go_wp2_with (first | (go_at_call 80; fail))
      go_at_call 80
      refine (HTR.out _ _).mono ?_
      rintro e w5 ⟨hb5, v5, rfl, hv5⟩
      obtain ⟨hz, n5, rfl, hz2, hend⟩ := BI.fin HBI.out HM.out hv5 hb5
      have HE := Lib.hid (And.intro hz2 hend)
      obtain ⟨k0, k1, k2, k3⟩ := hz.cells
      have f0 := hz.fr 0
      have f1 := hz.fr 1
      have f2 := hz.fr 2
      have f3 := hz.fr 3
      clear hz hz2 hend hb5 hv5
      go_wp2
      exact bodyPost_ret (val_res rfl _ _ (w.heap.size + 2) _ _ _ _ rfl HE.out.1) rfl HE.out.2
  · clear hop
    have hM : twoA op a b = avB (Lib.contains a.s b.s) := by subst ho; unfold twoA; rw [if_neg (by decide), if_neg (by decide), if_pos (by decide)]
    have HM : Hid (R = avB (Lib.contains a.s b.s)) := Lib.hid (hR.trans hM)
    clear HEQ HNM HH1 HH2 ho hM hR hs
    generalize Lib.contains a.s b.s = CC at HM HCT
    generalize tx op = T at *
    generalize a.t = at' at *
    generalize b.t = bt' at *
    generalize tx a.s = as' at *
    generalize tx b.s = bs' at *
    generalize a.b = ab' at *
    generalize b.b = bb' at *
    go_enter Tryz.func83, Tryz.ntmps83
    go_upto_region 1 with (fail)
    generalize (((w.alloc (.cells #[.int .i64 at', .float .f64 na, .string as', .bool ab'] 51)).alloc (.cells #[.int .i64 bt', .float .f64 nb, .string bs', .bool bb'] 51)).alloc (.cells #[.int .i64 0, .float .f64 0, .string ⟨#[]⟩, .bool false] 51)) = W0 at HBI ⊢
    obtain ⟨c0, c1, c2, c3⟩ := HBI.out.a.cells
    obtain ⟨d0, d1, d2, d3⟩ := HBI.out.b.cells
    go_wp2_with (first | (go_at_call 98; refine (HCT.out _ HBI.out.mx).mono ?_; rintro e w4 ⟨rfl, rfl⟩) | (go_at_call 80; fail))
    go_at_call 80
    refine (HTR.out _ _).mono ?_
    rintro e w5 ⟨hb5, v5, rfl, hv5⟩
    obtain ⟨hz, n5, rfl, hz2, hend⟩ := BI.fin HBI.out HM.out hv5 hb5
    have HE := Lib.hid (And.intro hz2 hend)
    obtain ⟨k0, k1, k2, k3⟩ := hz.cells
    have f0 := hz.fr 0
    have f1 := hz.fr 1
    have f2 := hz.fr 2
    have f3 := hz.fr 3
    clear hz hz2 hend hb5 hv5
    go_wp2
    exact bodyPost_ret (val_res rfl _ _ (w.heap.size + 2) _ _ _ _ rfl HE.out.1) rfl HE.out.2
  · clear hop
    have hM : twoA op a b = avB (eqA a b) := by subst ho; unfold twoA; rw [if_neg (by decide), if_neg (by decide), if_neg (by decide), if_pos (by decide)]
    have HM : Hid (R = avB (eqA a b)) := Lib.hid (hR.trans hM)
    clear HCT HNM HH1 HH2 ho hM hR hs
    generalize eqA a b = CC at HM HEQ
    generalize tx op = T at *
    generalize a.t = at' at *
    generalize b.t = bt' at *
    generalize tx a.s = as' at *
    generalize tx b.s = bs' at *
    generalize a.b = ab' at *
    generalize b.b = bb' at *
    go_enter Tryz.func83, Tryz.ntmps83
    go_upto_region 1 with (fail)
    generalize (((w.alloc (.cells #[.int .i64 at', .float .f64 na, .string as', .bool ab'] 51)).alloc (.cells #[.int .i64 bt', .float .f64 nb, .string bs', .bool bb'] 51)).alloc (.cells #[.int .i64 0, .float .f64 0, .string ⟨#[]⟩, .bool false] 51)) = W0 at HBI ⊢
    obtain ⟨c0, c1, c2, c3⟩ := HBI.out.a.cells
    obtain ⟨d0, d1, d2, d3⟩ := HBI.out.b.cells
    go_wp2_with (first | (go_at_call 99; fail))
    refine (HEQ.out _).mono ?_
    rintro e w4 ⟨rfl, hb4⟩
    have HB4 := Lib.hid (HBI.out.below hb4)
    clear hb4
    go_wp2_with (first | (go_at_call 80; fail))
    go_at_call 80
    refine (HTR.out _ _).mono ?_
    rintro e w5 ⟨hb5, v5, rfl, hv5⟩
    obtain ⟨hz, n5, rfl, hz2, hend⟩ := BI.fin HB4.out HM.out hv5 hb5
    have HE := Lib.hid (And.intro hz2 hend)
    obtain ⟨k0, k1, k2, k3⟩ := hz.cells
    have f0 := hz.fr 0
    have f1 := hz.fr 1
    have f2 := hz.fr 2
    have f3 := hz.fr 3
    clear hz hz2 hend hb5 hv5
    go_wp2
    exact bodyPost_ret (val_res rfl _ _ (w.heap.size + 2) _ _ _ _ rfl HE.out.1) rfl HE.out.2
  · clear hop
    have hM : twoA op a b = avB (!eqA a b) := by subst ho; unfold twoA; rw [if_neg (by decide), if_neg (by decide), if_neg (by decide), if_neg (by decide), if_pos (by decide)]
    have HM : Hid (R = avB (!eqA a b)) := Lib.hid (hR.trans hM)
    clear HCT HNM HH1 HH2 ho hM hR hs
    generalize eqA a b = CC at HM HEQ
    generalize tx op = T at *
    generalize a.t = at' at *
    generalize b.t = bt' at *
    generalize tx a.s = as' at *
    generalize tx b.s = bs' at *
    generalize a.b = ab' at *
    generalize b.b = bb' at *
    go_enter Tryz.func83, Tryz.ntmps83
    go_upto_region 1 with (fail)
    generalize (((w.alloc (.cells #[.int .i64 at', .float .f64 na, .string as', .bool ab'] 51)).alloc (.cells #[.int .i64 bt', .float .f64 nb, .string bs', .bool bb'] 51)).alloc (.cells #[.int .i64 0, .float .f64 0, .string ⟨#[]⟩, .bool false] 51)) = W0 at HBI ⊢
    obtain ⟨c0, c1, c2, c3⟩ := HBI.out.a.cells
    obtain ⟨d0, d1, d2, d3⟩ := HBI.out.b.cells
    go_wp2_with (first | (go_at_call 99; fail))
    refine (HEQ.out _).mono ?_
    rintro e w4 ⟨rfl, hb4⟩
    have HB4 := Lib.hid (HBI.out.below hb4)
    clear hb4
    go_wp2_with (first | (go_at_call 80; fail))
    go_at_call 80
    refine (HTR.out _ _).mono ?_
    rintro e w5 ⟨hb5, v5, rfl, hv5⟩
    obtain ⟨hz, n5, rfl, hz2, hend⟩ := BI.fin HB4.out HM.out hv5 hb5
    have HE := Lib.hid (And.intro hz2 hend)
    obtain ⟨k0, k1, k2, k3⟩ := hz.cells
    have f0 := hz.fr 0
    have f1 := hz.fr 1
    have f2 := hz.fr 2
    have f3 := hz.fr 3
    clear hz hz2 hend hb5 hv5
    go_wp2
    exact bodyPost_ret (val_res rfl _ _ (w.heap.size + 2) _ _ _ _ rfl HE.out.1) rfl HE.out.2
  · clear hop
    have hM : twoA op a b = avB (cmpA isLt a.n b.n) := by subst ho; unfold twoA; rw [if_neg (by decide), if_neg (by decide), if_neg (by decide), if_neg (by decide), if_neg (by decide), if_pos (by decide)]
    have HM : Hid (R = avB (FloatKind.f64.format.order na nb == some .lt)) := Lib.hid (by rw [hR, hM, isLt_order, HH1.out, HH2.out])
    clear HCT HEQ HNM HH1 HH2 ho hM hR hs
    generalize tx op = T at *
    generalize a.t = at' at *
    generalize b.t = bt' at *
    generalize tx a.s = as' at *
    generalize tx b.s = bs' at *
    generalize a.b = ab' at *
    generalize b.b = bb' at *
    go_enter Tryz.func83, Tryz.ntmps83
    go_upto_region 1 with (fail)
    generalize (((w.alloc (.cells #[.int .i64 at', .float .f64 na, .string as', .bool ab'] 51)).alloc (.cells #[.int .i64 bt', .float .f64 nb, .string bs', .bool bb'] 51)).alloc (.cells #[.int .i64 0, .float .f64 0, .string ⟨#[]⟩, .bool false] 51)) = W0 at HBI ⊢
    obtain ⟨c0, c1, c2, c3⟩ := HBI.out.a.cells
    obtain ⟨d0, d1, d2, d3⟩ := HBI.out.b.cells
    go_wp2_with (first | (go_at_call 80; fail))
    go_at_call 80
    refine (HTR.out _ _).mono ?_
    rintro e w5 ⟨hb5, v5, rfl, hv5⟩
    obtain ⟨hz, n5, rfl, hz2, hend⟩ := BI.fin HBI.out HM.out hv5 hb5
    have HE := Lib.hid (And.intro hz2 hend)
    obtain ⟨k0, k1, k2, k3⟩ := hz.cells
    have f0 := hz.fr 0
    have f1 := hz.fr 1
    have f2 := hz.fr 2
    have f3 := hz.fr 3
    clear hz hz2 hend hb5 hv5
    go_wp2
    exact bodyPost_ret (val_res rfl _ _ (w.heap.size + 2) _ _ _ _ rfl HE.out.1) rfl HE.out.2
  · clear hop
    have hM : twoA op a b = avB (cmpA isLe a.n b.n) := by subst ho; unfold twoA; rw [if_neg (by decide), if_neg (by decide), if_neg (by decide), if_neg (by decide), if_neg (by decide), if_neg (by decide), if_pos (by decide)]
    have HM : Hid (R = avB (FloatKind.f64.format.order na nb == some .lt || FloatKind.f64.format.order na nb == some .eq)) := Lib.hid (by rw [hR, hM, isLe_order, HH1.out, HH2.out])
    clear HCT HEQ HNM HH1 HH2 ho hM hR hs
    generalize tx op = T at *
    generalize a.t = at' at *
    generalize b.t = bt' at *
    generalize tx a.s = as' at *
    generalize tx b.s = bs' at *
    generalize a.b = ab' at *
    generalize b.b = bb' at *
    go_enter Tryz.func83, Tryz.ntmps83
    go_upto_region 1 with (fail)
    generalize (((w.alloc (.cells #[.int .i64 at', .float .f64 na, .string as', .bool ab'] 51)).alloc (.cells #[.int .i64 bt', .float .f64 nb, .string bs', .bool bb'] 51)).alloc (.cells #[.int .i64 0, .float .f64 0, .string ⟨#[]⟩, .bool false] 51)) = W0 at HBI ⊢
    obtain ⟨c0, c1, c2, c3⟩ := HBI.out.a.cells
    obtain ⟨d0, d1, d2, d3⟩ := HBI.out.b.cells
    go_wp2_with (first | (go_at_call 80; fail))
    go_at_call 80
    refine (HTR.out _ _).mono ?_
    rintro e w5 ⟨hb5, v5, rfl, hv5⟩
    obtain ⟨hz, n5, rfl, hz2, hend⟩ := BI.fin HBI.out HM.out hv5 hb5
    have HE := Lib.hid (And.intro hz2 hend)
    obtain ⟨k0, k1, k2, k3⟩ := hz.cells
    have f0 := hz.fr 0
    have f1 := hz.fr 1
    have f2 := hz.fr 2
    have f3 := hz.fr 3
    clear hz hz2 hend hb5 hv5
    go_wp2
    exact bodyPost_ret (val_res rfl _ _ (w.heap.size + 2) _ _ _ _ rfl HE.out.1) rfl HE.out.2
  · clear hop
    have hM : twoA op a b = avB (cmpA isGt a.n b.n) := by subst ho; unfold twoA; rw [if_neg (by decide), if_neg (by decide), if_neg (by decide), if_neg (by decide), if_neg (by decide), if_neg (by decide), if_neg (by decide), if_pos (by decide)]
    have HM : Hid (R = avB (FloatKind.f64.format.order na nb == some .gt)) := Lib.hid (by rw [hR, hM, isGt_order, HH1.out, HH2.out])
    clear HCT HEQ HNM HH1 HH2 ho hM hR hs
    generalize tx op = T at *
    generalize a.t = at' at *
    generalize b.t = bt' at *
    generalize tx a.s = as' at *
    generalize tx b.s = bs' at *
    generalize a.b = ab' at *
    generalize b.b = bb' at *
    go_enter Tryz.func83, Tryz.ntmps83
    go_upto_region 1 with (fail)
    generalize (((w.alloc (.cells #[.int .i64 at', .float .f64 na, .string as', .bool ab'] 51)).alloc (.cells #[.int .i64 bt', .float .f64 nb, .string bs', .bool bb'] 51)).alloc (.cells #[.int .i64 0, .float .f64 0, .string ⟨#[]⟩, .bool false] 51)) = W0 at HBI ⊢
    obtain ⟨c0, c1, c2, c3⟩ := HBI.out.a.cells
    obtain ⟨d0, d1, d2, d3⟩ := HBI.out.b.cells
    go_wp2_with (first | (go_at_call 80; fail))
    go_at_call 80
    refine (HTR.out _ _).mono ?_
    rintro e w5 ⟨hb5, v5, rfl, hv5⟩
    obtain ⟨hz, n5, rfl, hz2, hend⟩ := BI.fin HBI.out HM.out hv5 hb5
    have HE := Lib.hid (And.intro hz2 hend)
    obtain ⟨k0, k1, k2, k3⟩ := hz.cells
    have f0 := hz.fr 0
    have f1 := hz.fr 1
    have f2 := hz.fr 2
    have f3 := hz.fr 3
    clear hz hz2 hend hb5 hv5
    go_wp2
    exact bodyPost_ret (val_res rfl _ _ (w.heap.size + 2) _ _ _ _ rfl HE.out.1) rfl HE.out.2
  · clear hop
    have hM : twoA op a b = avB (cmpA isGe a.n b.n) := by subst ho; unfold twoA; rw [if_neg (by decide), if_neg (by decide), if_neg (by decide), if_neg (by decide), if_neg (by decide), if_neg (by decide), if_neg (by decide), if_neg (by decide), if_pos (by decide)]
    have HM : Hid (R = avB (FloatKind.f64.format.order na nb == some .gt || FloatKind.f64.format.order na nb == some .eq)) := Lib.hid (by rw [hR, hM, isGe_order, HH1.out, HH2.out])
    clear HCT HEQ HNM HH1 HH2 ho hM hR hs
    generalize tx op = T at *
    generalize a.t = at' at *
    generalize b.t = bt' at *
    generalize tx a.s = as' at *
    generalize tx b.s = bs' at *
    generalize a.b = ab' at *
    generalize b.b = bb' at *
    go_enter Tryz.func83, Tryz.ntmps83
    go_upto_region 1 with (fail)
    generalize (((w.alloc (.cells #[.int .i64 at', .float .f64 na, .string as', .bool ab'] 51)).alloc (.cells #[.int .i64 bt', .float .f64 nb, .string bs', .bool bb'] 51)).alloc (.cells #[.int .i64 0, .float .f64 0, .string ⟨#[]⟩, .bool false] 51)) = W0 at HBI ⊢
    obtain ⟨c0, c1, c2, c3⟩ := HBI.out.a.cells
    obtain ⟨d0, d1, d2, d3⟩ := HBI.out.b.cells
    go_wp2_with (first | (go_at_call 80; fail))
    go_at_call 80
    refine (HTR.out _ _).mono ?_
    rintro e w5 ⟨hb5, v5, rfl, hv5⟩
    obtain ⟨hz, n5, rfl, hz2, hend⟩ := BI.fin HBI.out HM.out hv5 hb5
    have HE := Lib.hid (And.intro hz2 hend)
    obtain ⟨k0, k1, k2, k3⟩ := hz.cells
    have f0 := hz.fr 0
    have f1 := hz.fr 1
    have f2 := hz.fr 2
    have f3 := hz.fr 3
    clear hz hz2 hend hb5 hv5
    go_wp2
    exact bodyPost_ret (val_res rfl _ _ (w.heap.size + 2) _ _ _ _ rfl HE.out.1) rfl HE.out.2
  · clear hop
    have hM : twoA op a b = avN (arA double.add a.n b.n) := by subst ho; unfold twoA; rw [if_neg (by decide), if_neg (by decide), if_neg (by decide), if_neg (by decide), if_neg (by decide), if_neg (by decide), if_neg (by decide), if_neg (by decide), if_neg (by decide), if_pos (by decide)]
    clear HCT HEQ HTR hs
    cases hfb : floatBits .add .f64 na nb with
    | none =>
      have HM : Hid (∀ W, R = avN (fA (nanB na nb W))) := Lib.hid (fun W => by rw [hR, hM, arA_none (op := .add) (f := double.add) (fun _ _ => rfl) W hfb, HH1.out, HH2.out])
      have hV : ∀ W, (binOp BinOp.add 22 (.float .f64 na) (.float .f64 nb)).run Tryz.prog W = .ok (.float .f64 (nanB na nb W)) W.drew := fun W => run_float_nan Tryz.prog W .add (.inl rfl) 22 na nb hfb
      clear HH1 HH2 ho hM hR hfb
      generalize tx op = T at *
      generalize a.t = at' at *
      generalize b.t = bt' at *
      generalize tx a.s = as' at *
      generalize tx b.s = bs' at *
      generalize a.b = ab' at *
      generalize b.b = bb' at *
      go_enter Tryz.func83, Tryz.ntmps83
      go_upto_region 1 with (fail)
      generalize (((w.alloc (.cells #[.int .i64 at', .float .f64 na, .string as', .bool ab'] 51)).alloc (.cells #[.int .i64 bt', .float .f64 nb, .string bs', .bool bb'] 51)).alloc (.cells #[.int .i64 0, .float .f64 0, .string ⟨#[]⟩, .bool false] 51)) = W0 at HBI ⊢
      obtain ⟨c0, c1, c2, c3⟩ := HBI.out.a.cells
      obtain ⟨d0, d1, d2, d3⟩ := HBI.out.b.cells
      have HM := Lib.hid (HM.out W0)
      have HB4 := Lib.hid HBI.out.drew
      go_wp2_with (first | (go_at_call 79; fail))
      go_at_call 79
      refine (HNM.out _ _).mono ?_
      rintro e w5 ⟨hb5, v5, rfl, hv5⟩
      obtain ⟨hz, n5, rfl, hz2, hend⟩ := BI.fin HB4.out HM.out hv5 hb5
      have HE := Lib.hid (And.intro hz2 hend)
      obtain ⟨k0, k1, k2, k3⟩ := hz.cells
      have f0 := hz.fr 0
      have f1 := hz.fr 1
      have f2 := hz.fr 2
      have f3 := hz.fr 3
      clear hz hz2 hend hb5 hv5
      go_wp2
      exact bodyPost_ret (val_res rfl _ _ (w.heap.size + 2) _ _ _ _ rfl HE.out.1) rfl HE.out.2
    | some rr =>
      have HM : Hid (R = avN (fA rr)) := Lib.hid (by rw [hR, hM, arA_some (op := .add) (f := double.add) (fun _ _ => rfl) hfb, HH1.out, HH2.out])
      have hV : ∀ W, (binOp BinOp.add 22 (.float .f64 na) (.float .f64 nb)).run Tryz.prog W = .ok (.float .f64 rr) W := fun W => run_float_arith W .add 22 .f64 _ _ _ hfb
      clear HH1 HH2 ho hM hR hfb
      generalize tx op = T at *
      generalize a.t = at' at *
      generalize b.t = bt' at *
      generalize tx a.s = as' at *
      generalize tx b.s = bs' at *
      generalize a.b = ab' at *
      generalize b.b = bb' at *
      go_enter Tryz.func83, Tryz.ntmps83
      go_upto_region 1 with (fail)
      generalize (((w.alloc (.cells #[.int .i64 at', .float .f64 na, .string as', .bool ab'] 51)).alloc (.cells #[.int .i64 bt', .float .f64 nb, .string bs', .bool bb'] 51)).alloc (.cells #[.int .i64 0, .float .f64 0, .string ⟨#[]⟩, .bool false] 51)) = W0 at HBI ⊢
      obtain ⟨c0, c1, c2, c3⟩ := HBI.out.a.cells
      obtain ⟨d0, d1, d2, d3⟩ := HBI.out.b.cells
      go_wp2_with (first | (go_at_call 79; fail))
      go_at_call 79
      refine (HNM.out _ _).mono ?_
      rintro e w5 ⟨hb5, v5, rfl, hv5⟩
      obtain ⟨hz, n5, rfl, hz2, hend⟩ := BI.fin HBI.out HM.out hv5 hb5
      have HE := Lib.hid (And.intro hz2 hend)
      obtain ⟨k0, k1, k2, k3⟩ := hz.cells
      have f0 := hz.fr 0
      have f1 := hz.fr 1
      have f2 := hz.fr 2
      have f3 := hz.fr 3
      clear hz hz2 hend hb5 hv5
      go_wp2
      exact bodyPost_ret (val_res rfl _ _ (w.heap.size + 2) _ _ _ _ rfl HE.out.1) rfl HE.out.2
  · clear hop
    have hM : twoA op a b = avN (arA double.sub a.n b.n) := by subst ho; unfold twoA; rw [if_neg (by decide), if_neg (by decide), if_neg (by decide), if_neg (by decide), if_neg (by decide), if_neg (by decide), if_neg (by decide), if_neg (by decide), if_neg (by decide), if_neg (by decide), if_pos (by decide)]
    clear HCT HEQ HTR hs
    cases hfb : floatBits .sub .f64 na nb with
    | none =>
      have HM : Hid (∀ W, R = avN (fA (nanB na nb W))) := Lib.hid (fun W => by rw [hR, hM, arA_none (op := .sub) (f := double.sub) (fun _ _ => rfl) W hfb, HH1.out, HH2.out])
      have hV : ∀ W, (binOp BinOp.sub 22 (.float .f64 na) (.float .f64 nb)).run Tryz.prog W = .ok (.float .f64 (nanB na nb W)) W.drew := fun W => run_float_nan Tryz.prog W .sub (.inr (.inl rfl)) 22 na nb hfb
      clear HH1 HH2 ho hM hR hfb
      generalize tx op = T at *
      generalize a.t = at' at *
      generalize b.t = bt' at *
      generalize tx a.s = as' at *
      generalize tx b.s = bs' at *
      generalize a.b = ab' at *
      generalize b.b = bb' at *
      go_enter Tryz.func83, Tryz.ntmps83
      go_upto_region 1 with (fail)
      generalize (((w.alloc (.cells #[.int .i64 at', .float .f64 na, .string as', .bool ab'] 51)).alloc (.cells #[.int .i64 bt', .float .f64 nb, .string bs', .bool bb'] 51)).alloc (.cells #[.int .i64 0, .float .f64 0, .string ⟨#[]⟩, .bool false] 51)) = W0 at HBI ⊢
      obtain ⟨c0, c1, c2, c3⟩ := HBI.out.a.cells
      obtain ⟨d0, d1, d2, d3⟩ := HBI.out.b.cells
      have HM := Lib.hid (HM.out W0)
      have HB4 := Lib.hid HBI.out.drew
      go_wp2_with (first | (go_at_call 79; fail))
      go_at_call 79
      refine (HNM.out _ _).mono ?_
      rintro e w5 ⟨hb5, v5, rfl, hv5⟩
      obtain ⟨hz, n5, rfl, hz2, hend⟩ := BI.fin HB4.out HM.out hv5 hb5
      have HE := Lib.hid (And.intro hz2 hend)
      obtain ⟨k0, k1, k2, k3⟩ := hz.cells
      have f0 := hz.fr 0
      have f1 := hz.fr 1
      have f2 := hz.fr 2
      have f3 := hz.fr 3
      clear hz hz2 hend hb5 hv5
      go_wp2
      exact bodyPost_ret (val_res rfl _ _ (w.heap.size + 2) _ _ _ _ rfl HE.out.1) rfl HE.out.2
    | some rr =>
      have HM : Hid (R = avN (fA rr)) := Lib.hid (by rw [hR, hM, arA_some (op := .sub) (f := double.sub) (fun _ _ => rfl) hfb, HH1.out, HH2.out])
      have hV : ∀ W, (binOp BinOp.sub 22 (.float .f64 na) (.float .f64 nb)).run Tryz.prog W = .ok (.float .f64 rr) W := fun W => run_float_arith W .sub 22 .f64 _ _ _ hfb
      clear HH1 HH2 ho hM hR hfb
      generalize tx op = T at *
      generalize a.t = at' at *
      generalize b.t = bt' at *
      generalize tx a.s = as' at *
      generalize tx b.s = bs' at *
      generalize a.b = ab' at *
      generalize b.b = bb' at *
      go_enter Tryz.func83, Tryz.ntmps83
      go_upto_region 1 with (fail)
      generalize (((w.alloc (.cells #[.int .i64 at', .float .f64 na, .string as', .bool ab'] 51)).alloc (.cells #[.int .i64 bt', .float .f64 nb, .string bs', .bool bb'] 51)).alloc (.cells #[.int .i64 0, .float .f64 0, .string ⟨#[]⟩, .bool false] 51)) = W0 at HBI ⊢
      obtain ⟨c0, c1, c2, c3⟩ := HBI.out.a.cells
      obtain ⟨d0, d1, d2, d3⟩ := HBI.out.b.cells
      go_wp2_with (first | (go_at_call 79; fail))
      go_at_call 79
      refine (HNM.out _ _).mono ?_
      rintro e w5 ⟨hb5, v5, rfl, hv5⟩
      obtain ⟨hz, n5, rfl, hz2, hend⟩ := BI.fin HBI.out HM.out hv5 hb5
      have HE := Lib.hid (And.intro hz2 hend)
      obtain ⟨k0, k1, k2, k3⟩ := hz.cells
      have f0 := hz.fr 0
      have f1 := hz.fr 1
      have f2 := hz.fr 2
      have f3 := hz.fr 3
      clear hz hz2 hend hb5 hv5
      go_wp2
      exact bodyPost_ret (val_res rfl _ _ (w.heap.size + 2) _ _ _ _ rfl HE.out.1) rfl HE.out.2
  · clear hop
    have hM : twoA op a b = avN (arA double.mul a.n b.n) := by subst ho; unfold twoA; rw [if_neg (by decide), if_neg (by decide), if_neg (by decide), if_neg (by decide), if_neg (by decide), if_neg (by decide), if_neg (by decide), if_neg (by decide), if_neg (by decide), if_neg (by decide), if_neg (by decide), if_pos (by decide)]
    clear HCT HEQ HTR hs
    cases hfb : floatBits .mul .f64 na nb with
    | none =>
      have HM : Hid (∀ W, R = avN (fA (nanB na nb W))) := Lib.hid (fun W => by rw [hR, hM, arA_none (op := .mul) (f := double.mul) (fun _ _ => rfl) W hfb, HH1.out, HH2.out])
      have hV : ∀ W, (binOp BinOp.mul 22 (.float .f64 na) (.float .f64 nb)).run Tryz.prog W = .ok (.float .f64 (nanB na nb W)) W.drew := fun W => run_float_nan Tryz.prog W .mul (.inr (.inr (.inl rfl))) 22 na nb hfb
      clear HH1 HH2 ho hM hR hfb
      generalize tx op = T at *
      generalize a.t = at' at *
      generalize b.t = bt' at *
      generalize tx a.s = as' at *
      generalize tx b.s = bs' at *
      generalize a.b = ab' at *
      generalize b.b = bb' at *
      go_enter Tryz.func83, Tryz.ntmps83
      go_upto_region 1 with (fail)
      generalize (((w.alloc (.cells #[.int .i64 at', .float .f64 na, .string as', .bool ab'] 51)).alloc (.cells #[.int .i64 bt', .float .f64 nb, .string bs', .bool bb'] 51)).alloc (.cells #[.int .i64 0, .float .f64 0, .string ⟨#[]⟩, .bool false] 51)) = W0 at HBI ⊢
      obtain ⟨c0, c1, c2, c3⟩ := HBI.out.a.cells
      obtain ⟨d0, d1, d2, d3⟩ := HBI.out.b.cells
      have HM := Lib.hid (HM.out W0)
      have HB4 := Lib.hid HBI.out.drew
      go_wp2_with (first | (go_at_call 79; fail))
      go_at_call 79
      refine (HNM.out _ _).mono ?_
      rintro e w5 ⟨hb5, v5, rfl, hv5⟩
      obtain ⟨hz, n5, rfl, hz2, hend⟩ := BI.fin HB4.out HM.out hv5 hb5
      have HE := Lib.hid (And.intro hz2 hend)
      obtain ⟨k0, k1, k2, k3⟩ := hz.cells
      have f0 := hz.fr 0
      have f1 := hz.fr 1
      have f2 := hz.fr 2
      have f3 := hz.fr 3
      clear hz hz2 hend hb5 hv5
      go_wp2
      exact bodyPost_ret (val_res rfl _ _ (w.heap.size + 2) _ _ _ _ rfl HE.out.1) rfl HE.out.2
    | some rr =>
      have HM : Hid (R = avN (fA rr)) := Lib.hid (by rw [hR, hM, arA_some (op := .mul) (f := double.mul) (fun _ _ => rfl) hfb, HH1.out, HH2.out])
      have hV : ∀ W, (binOp BinOp.mul 22 (.float .f64 na) (.float .f64 nb)).run Tryz.prog W = .ok (.float .f64 rr) W := fun W => run_float_arith W .mul 22 .f64 _ _ _ hfb
      clear HH1 HH2 ho hM hR hfb
      generalize tx op = T at *
      generalize a.t = at' at *
      generalize b.t = bt' at *
      generalize tx a.s = as' at *
      generalize tx b.s = bs' at *
      generalize a.b = ab' at *
      generalize b.b = bb' at *
      go_enter Tryz.func83, Tryz.ntmps83
      go_upto_region 1 with (fail)
      generalize (((w.alloc (.cells #[.int .i64 at', .float .f64 na, .string as', .bool ab'] 51)).alloc (.cells #[.int .i64 bt', .float .f64 nb, .string bs', .bool bb'] 51)).alloc (.cells #[.int .i64 0, .float .f64 0, .string ⟨#[]⟩, .bool false] 51)) = W0 at HBI ⊢
      obtain ⟨c0, c1, c2, c3⟩ := HBI.out.a.cells
      obtain ⟨d0, d1, d2, d3⟩ := HBI.out.b.cells
      go_wp2_with (first | (go_at_call 79; fail))
      go_at_call 79
      refine (HNM.out _ _).mono ?_
      rintro e w5 ⟨hb5, v5, rfl, hv5⟩
      obtain ⟨hz, n5, rfl, hz2, hend⟩ := BI.fin HBI.out HM.out hv5 hb5
      have HE := Lib.hid (And.intro hz2 hend)
      obtain ⟨k0, k1, k2, k3⟩ := hz.cells
      have f0 := hz.fr 0
      have f1 := hz.fr 1
      have f2 := hz.fr 2
      have f3 := hz.fr 3
      clear hz hz2 hend hb5 hv5
      go_wp2
      exact bodyPost_ret (val_res rfl _ _ (w.heap.size + 2) _ _ _ _ rfl HE.out.1) rfl HE.out.2
  · clear hop
    have hM : twoA op a b = avN (arA double.div a.n b.n) := by subst ho; unfold twoA; rw [if_neg (by decide), if_neg (by decide), if_neg (by decide), if_neg (by decide), if_neg (by decide), if_neg (by decide), if_neg (by decide), if_neg (by decide), if_neg (by decide), if_neg (by decide), if_neg (by decide), if_neg (by decide)]
    clear HCT HEQ HTR hs
    cases hfb : floatBits .quo .f64 na nb with
    | none =>
      have HM : Hid (∀ W, R = avN (fA (nanB na nb W))) := Lib.hid (fun W => by rw [hR, hM, arA_none (op := .quo) (f := double.div) (fun _ _ => rfl) W hfb, HH1.out, HH2.out])
      have hV : ∀ W, (binOp BinOp.quo 22 (.float .f64 na) (.float .f64 nb)).run Tryz.prog W = .ok (.float .f64 (nanB na nb W)) W.drew := fun W => run_float_nan Tryz.prog W .quo (.inr (.inr (.inr rfl))) 22 na nb hfb
      clear HH1 HH2 ho hM hR hfb
      generalize tx op = T at *
      generalize a.t = at' at *
      generalize b.t = bt' at *
      generalize tx a.s = as' at *
      generalize tx b.s = bs' at *
      generalize a.b = ab' at *
      generalize b.b = bb' at *
      go_enter Tryz.func83, Tryz.ntmps83
      go_upto_region 1 with (fail)
      generalize (((w.alloc (.cells #[.int .i64 at', .float .f64 na, .string as', .bool ab'] 51)).alloc (.cells #[.int .i64 bt', .float .f64 nb, .string bs', .bool bb'] 51)).alloc (.cells #[.int .i64 0, .float .f64 0, .string ⟨#[]⟩, .bool false] 51)) = W0 at HBI ⊢
      obtain ⟨c0, c1, c2, c3⟩ := HBI.out.a.cells
      obtain ⟨d0, d1, d2, d3⟩ := HBI.out.b.cells
      have HM := Lib.hid (HM.out W0)
      have HB4 := Lib.hid HBI.out.drew
      go_wp2_with (first | (go_at_call 79; fail))
      go_at_call 79
      refine (HNM.out _ _).mono ?_
      rintro e w5 ⟨hb5, v5, rfl, hv5⟩
      obtain ⟨hz, n5, rfl, hz2, hend⟩ := BI.fin HB4.out HM.out hv5 hb5
      have HE := Lib.hid (And.intro hz2 hend)
      obtain ⟨k0, k1, k2, k3⟩ := hz.cells
      have f0 := hz.fr 0
      have f1 := hz.fr 1
      have f2 := hz.fr 2
      have f3 := hz.fr 3
      clear hz hz2 hend hb5 hv5
      go_wp2
      exact bodyPost_ret (val_res rfl _ _ (w.heap.size + 2) _ _ _ _ rfl HE.out.1) rfl HE.out.2
    | some rr =>
      have HM : Hid (R = avN (fA rr)) := Lib.hid (by rw [hR, hM, arA_some (op := .quo) (f := double.div) (fun _ _ => rfl) hfb, HH1.out, HH2.out])
      have hV : ∀ W, (binOp BinOp.quo 22 (.float .f64 na) (.float .f64 nb)).run Tryz.prog W = .ok (.float .f64 rr) W := fun W => run_float_arith W .quo 22 .f64 _ _ _ hfb
      clear HH1 HH2 ho hM hR hfb
      generalize tx op = T at *
      generalize a.t = at' at *
      generalize b.t = bt' at *
      generalize tx a.s = as' at *
      generalize tx b.s = bs' at *
      generalize a.b = ab' at *
      generalize b.b = bb' at *
      go_enter Tryz.func83, Tryz.ntmps83
      go_upto_region 1 with (fail)
      generalize (((w.alloc (.cells #[.int .i64 at', .float .f64 na, .string as', .bool ab'] 51)).alloc (.cells #[.int .i64 bt', .float .f64 nb, .string bs', .bool bb'] 51)).alloc (.cells #[.int .i64 0, .float .f64 0, .string ⟨#[]⟩, .bool false] 51)) = W0 at HBI ⊢
      obtain ⟨c0, c1, c2, c3⟩ := HBI.out.a.cells
      obtain ⟨d0, d1, d2, d3⟩ := HBI.out.b.cells
      go_wp2_with (first | (go_at_call 79; fail))
      go_at_call 79
      refine (HNM.out _ _).mono ?_
      rintro e w5 ⟨hb5, v5, rfl, hv5⟩
      obtain ⟨hz, n5, rfl, hz2, hend⟩ := BI.fin HBI.out HM.out hv5 hb5
      have HE := Lib.hid (And.intro hz2 hend)
      obtain ⟨k0, k1, k2, k3⟩ := hz.cells
      have f0 := hz.fr 0
      have f1 := hz.fr 1
      have f2 := hz.fr 2
      have f3 := hz.fr 3
      clear hz hz2 hend hb5 hv5
      go_wp2
      exact bodyPost_ret (val_res rfl _ _ (w.heap.size + 2) _ _ _ _ rfl HE.out.1) rfl HE.out.2
  · rw [takes_none ho] at hop; cases hop
end Go.Proofs.YtfalcmbjjlgoaaaGreatDoor
/- Walks: TypeOf, Abs; what a tree that has a type is like. -/
namespace Go.Proofs.YtfalcmbjjlgoaaaGreatDoor
open Go.RowKit Go.Shelf Ieee
attribute [local go_sem] run_store_float
/-- A tree's type where it isn't too deep. -/
def tyP (L : List Bnd) (t : Tree) : Nat × Nat := if 16 < depT t then (0, 190) else tyT L t
set_option maxRecDepth 100000 in
set_option maxHeartbeats 4000000 in
theorem wtypeOf (L : List Bnd) (hLL : L.length ≤ 1000000) (vb : Value) (t : Tree) (A : Nat → Prop) (v : Value) (w : World) (hz : szT t ≤ 1000000) (hv : NodeV A w v t) (hb : BndV w vb L) :
    Calls Tryz.prog 13 #[v, vb] w fun e w' => e = .returned (.tuple #[.int .i64 ((tyP L t).1 : Nat), .int .i64 ((tyP L t).2 : Nat)]) ∧ Below w.heap.size w w' := by
  have HDP := Lib.hid (fun W (h : NodeV A W v t) => wdepth _ t (Nat.le_refl _) A v W hz h)
  have HTY := Lib.hid (fun W (h : NodeV A W v t) (k : BndV W vb L) => wtyped L hLL vb _ t (Nat.le_refl _) A v W hz h k)
  have HDD : Hid (depT t ≤ 1000000) := Lib.hid (by have := dep_sz t; omega)
  have HV := Lib.hid hv
  have HBV := Lib.hid hb
  obtain ⟨o, n, s, x, l, c, rfl⟩ := hv.agg
  obtain ⟨bx, bn, bc, rfl⟩ := hb.agg
  obtain ⟨R, hR⟩ : ∃ R, R = tyP L t := ⟨_, rfl⟩
  rw [← hR]
  unfold tyP at hR
  obtain ⟨T, hT⟩ : ∃ T, T = tyT L t := ⟨_, rfl⟩
  rw [← hT] at hR HTY
  obtain ⟨D, hD⟩ : ∃ D, D = depT t := ⟨_, rfl⟩
  rw [← hD] at hR HDP HDD
  have HR := Lib.hid hR
  have hdd := HDD.out
  have HB0 := Lib.hid (bel1 w (.cells #[.string o, .float .f64 n, .string s, .slice x l c] 25))
  have HNB : Hid (NB (w.alloc (.cells #[.string o, .float .f64 n, .string s, .slice x l c] 25)) w.heap.size (.agg #[.string o, .float .f64 n, .string s, .slice x l c])) := Lib.hid ⟨_, _, _, _, rfl, heap_alloc_new _ _⟩
  clear hv hb hz hR hT hD
  go_enter Tryz.func13, Tryz.ntmps13
  go_wp2_with (first | (go_at_call 18; fail))
  generalize w.alloc (.cells #[.string o, .float .f64 n, .string s, .slice x l c] 25) = W0 at HB0 HNB ⊢
  go_at_call 18
  refine (HDP.out _ (HV.out.below HB0.out)).mono ?_
  rintro e w2 ⟨rfl, hb2⟩
  have HB2 := Lib.hid (HB0.out.trans (below_le hb2 HB0.out.size))
  obtain ⟨p0, p1, p2, p3, _⟩ := (HNB.out.below hb2).cells
  have hlt := (HNB.out.below hb2).lt
  clear hb2 HB0 HNB HDP
  by_cases q : 16 < D
  · have HR2 : Hid (R = (0, 190)) := Lib.hid (by rw [HR.out, if_pos q])
    go_wp2
    go_ret2
    exact ⟨by rw [HR2.out]; rfl, HB2.out⟩
  · have HR2 : Hid (R = T) := Lib.hid (by rw [HR.out, if_neg q])
    obtain ⟨T1, T2⟩ := T
    go_wp2_with (first | (go_at_call 28; fail))
    go_at_call 28
    refine (HTY.out _ (HV.out.below HB2.out) (HBV.out.below HB2.out)).mono ?_
    rintro e w3 ⟨rfl, hb3⟩
    have HB3 := Lib.hid (HB2.out.trans (below_le hb3 HB2.out.size))
    clear hb3
    go_wp2
    go_ret2
    exact ⟨by rw [HR2.out]; rfl, HB3.out⟩
theorem call_bits (x : Nat) (w : World) : (callFunc 85 #[.float .f64 x]).run Tryz.prog w = .ok (.value (.int .u64 x)) w := by
  rw [run_callFunc_extern (P := Tryz.prog) (f := 85) (fn := Tryz.f85) (e := Extern.MathFloatBits.float64bits) (by kernel_rfl) (by kernel_rfl) (by kernel_rfl) (by kernel_rfl) (by kernel_rfl)]
  rfl
theorem call_float (x : Nat) (w : World) : (callFunc 86 #[.int .u64 (x : Int)]).run Tryz.prog w = .ok (.value (.float .f64 x)) w := by
  rw [run_callFunc_extern (P := Tryz.prog) (f := 86) (fn := Tryz.f86) (e := Extern.MathFloatBits.float64frombits) (by kernel_rfl) (by kernel_rfl) (by kernel_rfl) (by kernel_rfl) (by kernel_rfl)]
  rfl
theorem u64_andNot_top (x : Nat) : bits .andNot .u64 (x : Int) 9223372036854775808 = ((x % 2 ^ 63 : Nat) : Int) := by
  have e0 : bits .andNot .u64 (x : Int) 9223372036854775808 = IntKind.u64.wrap ((BitVec.ofInt 64 (x : Int) &&& ~~~BitVec.ofInt 64 9223372036854775808).toNat : Int) := rfl
  have e1 : ~~~BitVec.ofInt 64 9223372036854775808 = BitVec.ofNat 64 (2 ^ 63 - 1) := by decide
  have e2 : x % 2 ^ 64 % 2 ^ 63 = x % 2 ^ 63 := by omega
  have e3 : x % 2 ^ 63 < 2 ^ 63 := Nat.mod_lt _ (by decide)
  rw [e0, e1, BitVec.ofInt_natCast, BitVec.toNat_and, BitVec.toNat_ofNat, BitVec.toNat_ofNat, Nat.mod_eq_of_lt (show 2 ^ 63 - 1 < 2 ^ 64 by decide), Nat.and_two_pow_sub_one_eq_mod, e2, IntKind.wrap_u64]
  omega
set_option maxHeartbeats 1000000 in
theorem wabsF (x : Nat) (w : World) : Calls Tryz.prog 81 #[.float .f64 x] w fun e w' => e = .returned (.float .f64 (x % 2 ^ 63)) ∧ w = w' := by
  have hb := call_bits
  have hf := call_float (x % 2 ^ 63)
  have ha := u64_andNot_top x
  obtain ⟨y, hy⟩ : ∃ y, y = x % 2 ^ 63 := ⟨_, rfl⟩
  rw [← hy] at hf ha ⊢
  clear hy
  go_enter Tryz.func81, Tryz.ntmps81
  go_wp2
  go_ret
  exact ⟨rfl, rfl⟩
/-- What a tree that has a type is like. -/
theorem ty_ok {L : List Bnd} {op s : Bs} {fn : Nat} {c : List Tree} (h : (tyT L (.mk op fn s c)).2 = 0) : takesT op = some c.length ∧ (∀ i (hi : i < c.length), (tyT L c[i]).2 = 0) ∧ (op = wname → ∃ v, boundV L s = some v) := by
  rw [tyT] at h
  by_cases q : (tyL L c).2 = 0
  · rw [if_neg (by rw [q]; decide)] at h
    have hg := tyL_all L c q
    by_cases q2 : takesT op = some c.length
    · refine ⟨q2, hg, fun hn => ?_⟩
      rw [if_neg (by rw [q2]; exact fun e => e rfl)] at h
      subst hn
      rw [if_neg (by decide), if_neg (by decide), if_pos rfl] at h
      cases hb : boundV L s with
      | none => rw [hb] at h; cases h
      | some v => exact ⟨v, rfl⟩
    · rw [if_pos q2] at h
      cases h
  · rw [if_pos q] at h
    exact absurd h q
mutual
/-- No text in a tree is longer. -/
def txT (k : Nat) : Tree → Prop
  | .mk _ _ s l => s.length ≤ k ∧ txL k l
def txL (k : Nat) : List Tree → Prop
  | [] => True
  | t :: r => txT k t ∧ txL k r
end
theorem txL_get {k : Nat} : ∀ {l : List Tree}, txL k l → ∀ i (h : i < l.length), txT k l[i]
  | [], _, i, h => by cases h
  | t :: r, hl, 0, _ => hl.1
  | t :: r, hl, i + 1, h => txL_get hl.2 i (by simpa using h)
theorem bound_len {L : List Bnd} {s : Bs} {v : Vl} {k : Nat} (hL : ∀ b ∈ L, b.v.s.length ≤ k) (h : boundV L s = some v) : v.s.length ≤ k := by
  have key : ∀ (L : List Bnd) b, (∀ b ∈ L, b.v.s.length ≤ k) → firstB s L = some b → b.v.s.length ≤ k := fun L => by
    induction L with
    | nil => intro b _ h; cases h
    | cons a r ih =>
      intro b hk h
      unfold firstB at h
      split at h
      · cases h; exact hk _ (by simp)
      · exact ih b (fun b hb => hk b (by simp [hb])) h
  unfold boundV at h
  split at h
  · cases h
  · rename_i b hb
    have := key L b hL hb
    unfold plainV at h
    split at h
    · cases h; simp
    · split at h
      · cases h; exact this
      · split at h
        · cases h; simp
        · cases h
theorem one_s (C : Bs → Nat) (op : Bs) (a : Av) : (oneA C op a).s = [] := by
  unfold oneA
  repeat' (first | rfl | split)
theorem ite_s (c : Prop) [Decidable c] (x y : Av) (hx : x.s = []) (hy : y.s = []) : (if c then x else y).s = [] := by
  split
  · exact hx
  · exact hy
theorem two_s (op : Bs) (a b : Av) : (twoA op a b).s = [] := by
  unfold twoA
  iterate 12 refine ite_s _ _ _ rfl ?_
  rfl
theorem ev_len (C : Bs → Nat) {L : List Bnd} {k : Nat} (hL : ∀ b ∈ L, b.v.s.length ≤ k) {t : Tree} (ht : txT k t) : (evT C L t).s.length ≤ k := by
  obtain ⟨op, n, s, c⟩ := t
  have h1 : s.length ≤ k := ht.1
  have hN : ∀ x, (avN x).s.length ≤ k := fun b => Nat.zero_le k
  rw [evT]
  split
  · exact hN _
  · split
    · exact h1
    · split
      · split
        · rename_i v hv; exact bound_len hL hv
        · exact Nat.zero_le k
      · split
        · rw [one_s]; exact Nat.zero_le k
        · rw [two_s]; exact Nat.zero_le k
        · exact Nat.zero_le k
end Go.Proofs.YtfalcmbjjlgoaaaGreatDoor
/- Walks: part at a tree, Print at a tree: the program's. -/
namespace Go.Proofs.YtfalcmbjjlgoaaaGreatDoor
open Go.RowKit Go.Shelf Ieee Go.Lib
attribute [local go_sem] run_store_float
/-- What a child of a node is in memory. -/
theorem kid1 {A : Nat → Prop} {w : World} {a : Addr} {t0 : Tree} {r : List Tree} (h : NodesV A w a 0 (t0 :: r)) : ∃ o1 n1 s1 x1 l1 c1, w.cell? a = some (.string o1) ∧ w.cell? ⟨a.block, a.off + 1, none⟩ = some (.float .f64 n1) ∧ w.cell? ⟨a.block, a.off + 2, none⟩ = some (.string s1) ∧ w.cell? ⟨a.block, a.off + 3, none⟩ = some (.slice x1 l1 c1) ∧ NodeV A w (.agg #[.string o1, .float .f64 n1, .string s1, .slice x1 l1 c1]) t0 := by
  obtain ⟨⟨u0, u1, u2, u3, e0, e1, e2, e3, hnode⟩, _⟩ := h
  simp only [Nat.zero_mul, Nat.zero_add] at e0 e1 e2 e3
  rw [show a.add 0 = a from rfl] at e0
  obtain ⟨o1, n1, s1, x1, l1, c1, hag⟩ := hnode.agg
  cases hag
  exact ⟨o1, n1, s1, x1, l1, c1, e0, by simpa [Addr.add] using e1, by simpa [Addr.add] using e2, by simpa [Addr.add] using e3, hnode⟩
theorem kid2 {A : Nat → Prop} {w : World} {a : Addr} {t0 t1 : Tree} {r : List Tree} (h : NodesV A w a 0 (t0 :: t1 :: r)) : ∃ o1 n1 s1 x1 l1 c1, w.cell? ⟨a.block, a.off + 4, none⟩ = some (.string o1) ∧ w.cell? ⟨a.block, a.off + 4 + 1, none⟩ = some (.float .f64 n1) ∧ w.cell? ⟨a.block, a.off + 4 + 2, none⟩ = some (.string s1) ∧ w.cell? ⟨a.block, a.off + 4 + 3, none⟩ = some (.slice x1 l1 c1) ∧ NodeV A w (.agg #[.string o1, .float .f64 n1, .string s1, .slice x1 l1 c1]) t1 := by
  obtain ⟨_, ⟨u0, u1, u2, u3, e0, e1, e2, e3, hnode⟩, _⟩ := h
  simp only [Nat.zero_add, Nat.one_mul] at e0 e1 e2 e3
  obtain ⟨o1, n1, s1, x1, l1, c1, hag⟩ := hnode.agg
  cases hag
  exact ⟨o1, n1, s1, x1, l1, c1, by simpa [Addr.add] using e0, by simpa [Addr.add] using e1, by simpa [Addr.add] using e2, by simpa [Addr.add] using e3, hnode⟩
theorem NodeV.op {A : Nat → Prop} {w : World} {o s : ByteArray} {n : Nat} {x : Option Addr} {l c : Nat} {t : Tree} (h : NodeV A w (.agg #[.string o, .float .f64 n, .string s, .slice x l c]) t) : o = tx t.op := by
  obtain ⟨op, fn, st, ch⟩ := t
  obtain ⟨x', cap, hv, _⟩ := h
  cases hv
  rfl
theorem prt_bad {N : Nat → Bs} {op s : Bs} {n : Nat} {l : List Tree} (h : takesT op ≠ some l.length) : prtT N (.mk op n s l) = [48] := by
  rw [prtT]; unfold prtO; rw [prtL_len, if_pos h]
theorem prt_num {N : Nat → Bs} {op s : Bs} {n : Nat} {l : List Tree} (h : takesT op = some l.length) (h0 : op = wnum) : prtT N (.mk op n s l) = N n := by
  rw [prtT]; unfold prtO; rw [prtL_len, if_neg (by rw [h]; exact fun e => e rfl), if_pos h0]
theorem prt_text {N : Nat → Bs} {op s : Bs} {n : Nat} {l : List Tree} (h : takesT op = some l.length) (h0 : op ≠ wnum) (h1 : op = wtext) : prtT N (.mk op n s l) = [39] ++ s ++ [39] := by
  rw [prtT]; unfold prtO; rw [prtL_len, if_neg (by rw [h]; exact fun e => e rfl), if_neg h0, if_pos h1]
theorem prt_name {N : Nat → Bs} {op s : Bs} {n : Nat} {l : List Tree} (h : takesT op = some l.length) (h0 : op ≠ wnum) (h1 : op ≠ wtext) (h2 : op = wname) : prtT N (.mk op n s l) = s := by
  rw [prtT]; unfold prtO; rw [prtL_len, if_neg (by rw [h]; exact fun e => e rfl), if_neg h0, if_neg h1, if_pos h2]
theorem prt_one {N : Nat → Bs} {op s : Bs} {n : Nat} {t0 : Tree} (h : takesT op = some 1) (h0 : op ≠ wnum) (h1 : op ≠ wtext) (h2 : op ≠ wname) : prtT N (.mk op n s [t0]) = if op = wnot then [110, 111, 116, 32] ++ parS t0.op (prtT N t0) else if op = wneg then [45] ++ parS t0.op (prtT N t0) else op ++ [40] ++ prtT N t0 ++ [41] := by
  rw [prtT]; unfold prtO; rw [prtL_len, if_neg (by rw [h]; exact fun e => e rfl), if_neg h0, if_neg h1, if_neg h2]; rfl
theorem prt_two {N : Nat → Bs} {op s : Bs} {n : Nat} {t0 t1 : Tree} (h : takesT op = some 2) (h0 : op ≠ wnum) (h1 : op ≠ wtext) (h2 : op ≠ wname) : prtT N (.mk op n s [t0, t1]) = if op = whas then [104, 97, 115, 40] ++ prtT N t0 ++ [44, 32] ++ prtT N t1 ++ [41] else parS t0.op (prtT N t0) ++ [32] ++ op ++ [32] ++ parS t1.op (prtT N t1) := by
  rw [prtT]; unfold prtO; rw [prtL_len, if_neg (by rw [h]; exact fun e => e rfl), if_neg h0, if_neg h1, if_neg h2]; rfl
theorem takes_12' {op : Bs} {k : Nat} (h : takesT op = some k) (h0 : op ≠ wnum) (h1 : op ≠ wtext) (h2 : op ≠ wname) : (k = 1 ∧ (op = wnot ∨ op = wneg ∨ op = wlen ∨ op = wabs)) ∨ (k = 2 ∧ op ≠ wnot ∧ op ≠ wneg ∧ op ≠ wlen ∧ op ≠ wabs) := by
  unfold takesT at h
  rw [if_neg (fun e => by rcases e with e | e | e; exact h0 e; exact h1 e; exact h2 e)] at h
  by_cases q : op = wnot ∨ op = wneg ∨ op = wlen ∨ op = wabs
  · rw [if_pos q] at h
    cases h
    exact .inl ⟨rfl, q⟩
  · rw [if_neg q] at h
    split at h
    · cases h
      exact .inr ⟨rfl, fun e => q (.inl e), fun e => q (.inr (.inl e)), fun e => q (.inr (.inr (.inl e))), fun e => q (.inr (.inr (.inr e)))⟩
    · cases h
theorem len1 {α : Type} {l : List α} (h : l.length = 1) : ∃ a, l = [a] := by
  cases l with
  | nil => cases h
  | cons a r => cases r with
    | nil => exact ⟨a, rfl⟩
    | cons b r => simp at h
theorem len2 {α : Type} {l : List α} (h : l.length = 2) : ∃ a b, l = [a, b] := by
  cases l with
  | nil => cases h
  | cons a r =>
    obtain ⟨b, rfl⟩ := len1 (l := r) (by simpa using h)
    exact ⟨a, b, rfl⟩
/-- What Print and part give at a child, its text being r. -/
def Kid (w : World) (v : Value) (op r : Bs) : Prop := r.length ≤ 900000 ∧ (∀ W, Below w.heap.size w W → Calls Tryz.prog 9 #[v] W fun e w' => e = .returned (.string (tx r)) ∧ Below W.heap.size W w') ∧ (∀ W, Below w.heap.size w W → Calls Tryz.prog 26 #[v] W fun e w' => e = .returned (.string (tx (parS op r))) ∧ Below W.heap.size W w')
theorem kid_of {w : World} {op r : Bs} {n1 : Nat} {s1 : ByteArray} {x1 : Option Addr} {l1 c1 : Nat} (hr : r.length ≤ 900000) (h : ∀ W, Below w.heap.size w W → Calls Tryz.prog 9 #[.agg #[.string (tx op), .float .f64 n1, .string s1, .slice x1 l1 c1]] W fun e w' => e = .returned (.string (tx r)) ∧ Below W.heap.size W w') :
    Kid w (.agg #[.string (tx op), .float .f64 n1, .string s1, .slice x1 l1 c1]) op r :=
  ⟨hr, h, fun W hW => wpart op n1 s1 x1 l1 c1 r (by omega) W (fun W2 h2 => h W2 (hW.trans (below_le h2 hW.size)))⟩
set_option maxRecDepth 100000 in
set_option maxHeartbeats 1000000 in
theorem wpr_kid1 (op s : Bs) (fn : Nat) (a : Addr) (cap : Nat) (w : World) (hk : takesT op = some 1) (h0 : op ≠ wnum) (h1 : op ≠ wtext) (h2 : op ≠ wname) (o0 r0 : Bs) (hab : a.block < w.heap.size)
    (o1 s1 : ByteArray) (n1 : Nat) (x1 : Option Addr) (l1 c1 : Nat) (e0 : w.cell? a = some (.string o1)) (e1 : w.cell? ⟨a.block, a.off + 1, none⟩ = some (.float .f64 n1)) (e2 : w.cell? ⟨a.block, a.off + 2, none⟩ = some (.string s1)) (e3 : w.cell? ⟨a.block, a.off + 3, none⟩ = some (.slice x1 l1 c1))
    (K : Kid w (.agg #[.string o1, .float .f64 n1, .string s1, .slice x1 l1 c1]) o0 r0)
    (hSH : ∀ W, Below w.heap.size w W → Calls Tryz.prog 24 #[.agg #[.string (tx op), .float .f64 fn, .string (tx s), .slice (some a) 1 cap]] W fun e w' => e = .returned (.bool true) ∧ Below W.heap.size W w') :
    Calls Tryz.prog 9 #[.agg #[.string (tx op), .float .f64 fn, .string (tx s), .slice (some a) 1 cap]] w fun e w' => e = .returned (.string (tx (if op = wnot then [110, 111, 116, 32] ++ parS o0 r0 else if op = wneg then [45] ++ parS o0 r0 else op ++ [40] ++ r0 ++ [41]))) ∧ Below w.heap.size w w' := by
  obtain ⟨hr, k1, k2⟩ := K
  have hl1 := parS_len o0 r0
  rcases takes_12' hk h0 h1 h2 with ⟨_, ho⟩ | ⟨hl, _⟩
  · rcases ho with ho | ho | ho | ho
    · rw [if_pos ho]
      exact wpr_not op s fn _ 1 cap w h0 h1 h2 ho a hab o1 s1 n1 x1 l1 c1 e0 e1 e2 e3 rfl rfl _ (by omega) (Lib.hid k2) (Lib.hid hSH)
    · have h3 : op ≠ wnot := by rw [ho]; decide
      rw [if_neg h3, if_pos ho]
      exact wpr_neg op s fn _ 1 cap w h0 h1 h2 h3 ho a hab o1 s1 n1 x1 l1 c1 e0 e1 e2 e3 rfl rfl _ (by omega) (Lib.hid k2) (Lib.hid hSH)
    · have h3 : op ≠ wnot := by rw [ho]; decide
      have h4 : op ≠ wneg := by rw [ho]; decide
      rw [if_neg h3, if_neg h4]
      exact wpr_len op s fn _ 1 cap w h0 h1 h2 h3 h4 ho a hab o1 s1 n1 x1 l1 c1 e0 e1 e2 e3 rfl rfl _ (by omega) (Lib.hid k1) (Lib.hid hSH)
    · have h3 : op ≠ wnot := by rw [ho]; decide
      have h4 : op ≠ wneg := by rw [ho]; decide
      have h5 : op ≠ wlen := by rw [ho]; decide
      rw [if_neg h3, if_neg h4]
      exact wpr_abs op s fn _ 1 cap w h0 h1 h2 h3 h4 h5 ho a hab o1 s1 n1 x1 l1 c1 e0 e1 e2 e3 rfl rfl _ (by omega) (Lib.hid k1) (Lib.hid hSH)
  · cases hl
set_option maxRecDepth 100000 in
set_option maxHeartbeats 1000000 in
theorem wpr_kid2 (op s : Bs) (fn : Nat) (a : Addr) (cap : Nat) (w : World) (hk : takesT op = some 2) (h0 : op ≠ wnum) (h1 : op ≠ wtext) (h2 : op ≠ wname) (o0 r0 o9 r9 : Bs) (hab : a.block < w.heap.size)
    (o1 s1 : ByteArray) (n1 : Nat) (x1 : Option Addr) (l1 c1 : Nat) (e0 : w.cell? a = some (.string o1)) (e1 : w.cell? ⟨a.block, a.off + 1, none⟩ = some (.float .f64 n1)) (e2 : w.cell? ⟨a.block, a.off + 2, none⟩ = some (.string s1)) (e3 : w.cell? ⟨a.block, a.off + 3, none⟩ = some (.slice x1 l1 c1))
    (o2 s2 : ByteArray) (n2 : Nat) (x2 : Option Addr) (l2 c2 : Nat) (e4 : w.cell? ⟨a.block, a.off + 4, none⟩ = some (.string o2)) (e5 : w.cell? ⟨a.block, a.off + 4 + 1, none⟩ = some (.float .f64 n2)) (e6 : w.cell? ⟨a.block, a.off + 4 + 2, none⟩ = some (.string s2)) (e7 : w.cell? ⟨a.block, a.off + 4 + 3, none⟩ = some (.slice x2 l2 c2))
    (K : Kid w (.agg #[.string o1, .float .f64 n1, .string s1, .slice x1 l1 c1]) o0 r0) (K2 : Kid w (.agg #[.string o2, .float .f64 n2, .string s2, .slice x2 l2 c2]) o9 r9)
    (hSH : ∀ W, Below w.heap.size w W → Calls Tryz.prog 24 #[.agg #[.string (tx op), .float .f64 fn, .string (tx s), .slice (some a) 2 cap]] W fun e w' => e = .returned (.bool true) ∧ Below W.heap.size W w') :
    Calls Tryz.prog 9 #[.agg #[.string (tx op), .float .f64 fn, .string (tx s), .slice (some a) 2 cap]] w fun e w' => e = .returned (.string (tx (if op = whas then [104, 97, 115, 40] ++ r0 ++ [44, 32] ++ r9 ++ [41] else parS o0 r0 ++ [32] ++ op ++ [32] ++ parS o9 r9))) ∧ Below w.heap.size w w' := by
  obtain ⟨hr, k1, k2⟩ := K
  obtain ⟨hr9, k3, k4⟩ := K2
  have hl1 := parS_len o0 r0
  have hl3 := parS_len o9 r9
  rcases takes_12' hk h0 h1 h2 with ⟨hl, _⟩ | ⟨_, hn1, hn2, hn3, hn4⟩
  · cases hl
  · by_cases h7 : op = whas
    · rw [if_pos h7]
      exact wpr_has op s fn _ 2 cap w h0 h1 h2 hn1 hn2 hn3 hn4 h7 a hab o1 s1 n1 x1 l1 c1 e0 e1 e2 e3 o2 s2 n2 x2 l2 c2 e4 e5 e6 e7 rfl rfl _ _ (by omega) (by omega) (Lib.hid k1) (Lib.hid k3) (Lib.hid hSH)
    · rw [if_neg h7]
      exact wpr_two op s fn _ 2 cap w h0 h1 h2 hn1 hn2 hn3 hn4 h7 (takes_len hk) a hab o1 s1 n1 x1 l1 c1 e0 e1 e2 e3 o2 s2 n2 x2 l2 c2 e4 e5 e6 e7 rfl rfl _ _ (by omega) (by omega) (Lib.hid k2) (Lib.hid k4) (Lib.hid hSH)
set_option maxRecDepth 100000 in
set_option maxHeartbeats 1000000 in
theorem wPrint : ∀ (n : Nat) (t : Tree), szT t ≤ n → ∀ (A : Nat → Prop) (v : Value) (w : World), lenT t ≤ 900000 → PwT w → NodeV A w v t →
    Calls Tryz.prog 9 #[v] w fun e w' => e = .returned (.string (tx (prtT numT t))) ∧ Below w.heap.size w w' := by
  intro n
  induction n with
  | zero => intro t h; cases t; simp only [szT] at h; omega
  | succ n ih =>
    intro t hn A v w hd hp hv
    have hv0 := hv
    obtain ⟨op, fn, s, l⟩ := t
    obtain ⟨x, cap, rfl, hcap, hx, hch⟩ := hv
    have hszl : szL l ≤ n := by simp only [szT] at hn; omega
    have hSH : ∀ W, Below w.heap.size w W → Calls Tryz.prog 24 #[.agg #[.string (tx op), .float .f64 fn, .string (tx s), .slice x l.length cap]] W fun e w' => e = .returned (.bool (decide (takesT op = some l.length))) ∧ Below W.heap.size W w' := fun W hW => wshaped A _ op s fn l W (hv0.below hW)
    by_cases hk : takesT op = some l.length
    · rw [decide_eq_true hk] at hSH
      by_cases h0 : op = wnum
      · rw [prt_num hk h0]; exact wpr_num op s fn x _ cap w h0 hp (Lib.hid hSH)
      · by_cases h1 : op = wtext
        · rw [prt_text hk h0 h1]; exact wpr_text op s fn x _ cap w h0 h1 (by simp only [lenT] at hd; omega) (Lib.hid hSH)
        · by_cases h2 : op = wname
          · rw [prt_name hk h0 h1 h2]; exact wpr_name op s fn x _ cap w h0 h1 h2 (Lib.hid hSH)
          · have kid : ∀ (t0 : Tree) (o1 s1 : ByteArray) (n1 : Nat) (x1 : Option Addr) (l1 c1 : Nat), szT t0 ≤ n → lenT t0 ≤ 900000 → NodeV A w (.agg #[.string o1, .float .f64 n1, .string s1, .slice x1 l1 c1]) t0 → Kid w (.agg #[.string o1, .float .f64 n1, .string s1, .slice x1 l1 c1]) t0.op (prtT numT t0) := fun t0 o1 s1 n1 x1 l1 c1 g1 g2 g3 => by
              have hP : ∀ W, Below w.heap.size w W → Calls Tryz.prog 9 #[.agg #[.string o1, .float .f64 n1, .string s1, .slice x1 l1 c1]] W fun e w' => e = .returned (.string (tx (prtT numT t0))) ∧ Below W.heap.size W w' := fun W hW => ih t0 g1 A _ W g2 (hp.below hW) (g3.below hW)
              have hl := Nat.le_trans (prt_len numT_len t0) g2
              have ho := g3.op
              generalize prtT numT t0 = r at hP hl ⊢
              subst ho
              exact kid_of hl hP
            rcases takes_12' hk h0 h1 h2 with ⟨hl, _⟩ | ⟨hl, _⟩
            · obtain ⟨t0, rfl⟩ := len1 hl
              · obtain ⟨a, rfl⟩ : ∃ a, x = some a := by
                  cases x with
                  | none => have := hx rfl; cases this
                  | some a => exact ⟨a, rfl⟩
                obtain ⟨hab, hns⟩ := hch a rfl
                obtain ⟨o1, n1, s1, x1, l1, c1, e0, e1, e2, e3, hnode⟩ := kid1 hns
                simp only [szL] at hszl
                simp only [lenT, lenL] at hd
                have K := kid t0 o1 s1 n1 x1 l1 c1 (by omega) (by omega) hnode
                rw [prt_one hk h0 h1 h2]
                generalize prtT numT t0 = r0 at K ⊢
                exact wpr_kid1 op s fn a cap w hk h0 h1 h2 t0.op r0 (hab (by intro e; cases e)).2 o1 s1 n1 x1 l1 c1 e0 e1 e2 e3 K hSH
            · obtain ⟨t0, t1, rfl⟩ := len2 hl
              · obtain ⟨a, rfl⟩ : ∃ a, x = some a := by
                  cases x with
                  | none => have := hx rfl; cases this
                  | some a => exact ⟨a, rfl⟩
                obtain ⟨hab, hns⟩ := hch a rfl
                obtain ⟨o1, n1, s1, x1, l1, c1, e0, e1, e2, e3, hnode⟩ := kid1 hns
                obtain ⟨o2, n2, s2, x2, l2, c2, e4, e5, e6, e7, hnode2⟩ := kid2 hns
                simp only [szL] at hszl
                simp only [lenT, lenL] at hd
                have K := kid t0 o1 s1 n1 x1 l1 c1 (by omega) (by omega) hnode
                have K2 := kid t1 o2 s2 n2 x2 l2 c2 (by omega) (by omega) hnode2
                rw [prt_two hk h0 h1 h2]
                generalize prtT numT t0 = r0 at K ⊢
                generalize prtT numT t1 = r9 at K2 ⊢
                exact wpr_kid2 op s fn a cap w hk h0 h1 h2 t0.op r0 t1.op r9 (hab (by intro e; cases e)).2 o1 s1 n1 x1 l1 c1 e0 e1 e2 e3 o2 s2 n2 x2 l2 c2 e4 e5 e6 e7 K K2 hSH
    · rw [decide_eq_false hk] at hSH
      rw [prt_bad hk]
      exact wpr_bad op s fn x _ cap w (Lib.hid hSH)
end Go.Proofs.YtfalcmbjjlgoaaaGreatDoor
