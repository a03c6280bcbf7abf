/- Own texts, merged: S9. -/
import Derived.Test.YtfalcmbjjlgoaaaGreatDoorMB41
import Derived.Test.YtfalcmbjjlgoaaaGreatDoorShelfB
/- Walk: both, over the Ops told apart (printed by gen_s9.py). -/
namespace Go.Proofs.YtfalcmbjjlgoaaaGreatDoor
open Go.RowKit Go.Shelf Ieee
attribute [local go_sem] run_store_float
/-- A variable that strings.Contains reads. -/
def MaxLn (m : Int) (w : World) : Prop := w.cell? ⟨1, 0, none⟩ = some (.int .i64 m)
theorem MaxLn.below {m : Int} {w w' : World} (h : MaxLn m w) (hb : Below w.heap.size w w') : MaxLn m w' := cell_same (hb.block _ (cell_lt h)) h
theorem MaxLn.drew {m : Int} {w : World} (h : MaxLn m w) : MaxLn m w.drew := h
/-- What both holds: its parts and its result's variable. -/
structure BI (w : World) (a0 a1 a2 a3 b0 b1 b2 b3 : Value) (m : Int) (W : World) : Prop where
  a : VB W w.heap.size a0 a1 a2 a3
  b : VB W (w.heap.size + 1) b0 b1 b2 b3
  r : VB W (w.heap.size + 2) (.int .i64 0) (.float .f64 0) (.string ⟨#[]⟩) (.bool false)
  bel : Below w.heap.size w W
  mx : MaxLn m W
theorem BI.start {w : World} {m : Int} (hm : MaxLn m w) (a0 a1 a2 a3 b0 b1 b2 b3 : Value) :
    BI w a0 a1 a2 a3 b0 b1 b2 b3 m (((w.alloc (.cells #[a0, a1, a2, a3] 51)).alloc (.cells #[b0, b1, b2, b3] 51)).alloc (.cells #[.int .i64 0, .float .f64 0, .string ⟨#[]⟩, .bool false] 51)) := by
  have h1 : VB (w.alloc (.cells #[a0, a1, a2, a3] 51)) w.heap.size a0 a1 a2 a3 := heap_alloc_new _ _
  have h2 : VB ((w.alloc (.cells #[a0, a1, a2, a3] 51)).alloc (.cells #[b0, b1, b2, b3] 51)) (w.heap.size + 1) b0 b1 b2 b3 := by
    have := heap_alloc_new (w.alloc (.cells #[a0, a1, a2, a3] 51)) (.cells #[b0, b1, b2, b3] 51)
    simpa [VB] using this
  have h3 : VB (((w.alloc (.cells #[a0, a1, a2, a3] 51)).alloc (.cells #[b0, b1, b2, b3] 51)).alloc (.cells #[.int .i64 0, .float .f64 0, .string ⟨#[]⟩, .bool false] 51)) (w.heap.size + 2) (.int .i64 0) (.float .f64 0) (.string ⟨#[]⟩) (.bool false) := by
    have := heap_alloc_new ((w.alloc (.cells #[a0, a1, a2, a3] 51)).alloc (.cells #[b0, b1, b2, b3] 51)) (.cells #[.int .i64 0, .float .f64 0, .string ⟨#[]⟩, .bool false] 51)
    simpa [VB] using this
  have k1 : ∀ (W : World) o, Below W.heap.size W (W.alloc o) := fun W o => (Below.refl _ _).alloc (Nat.le_refl _) _
  have hb : Below w.heap.size w (((w.alloc (.cells #[a0, a1, a2, a3] 51)).alloc (.cells #[b0, b1, b2, b3] 51)).alloc (.cells #[.int .i64 0, .float .f64 0, .string ⟨#[]⟩, .bool false] 51)) := (((Below.refl _ _).alloc (Nat.le_refl _) _).alloc (by simp) _).alloc (by simp; omega) _
  exact ⟨(h1.below (k1 _ _)).below (k1 _ _), h2.below (k1 _ _), h3, hb, hm.below hb⟩
theorem BI.below {w : World} {a0 a1 a2 a3 b0 b1 b2 b3 : Value} {m : Int} {W W' : World} (h : BI w a0 a1 a2 a3 b0 b1 b2 b3 m W) (hb : Below W.heap.size W W') : BI w a0 a1 a2 a3 b0 b1 b2 b3 m W' :=
  ⟨h.a.below hb, h.b.below hb, h.r.below hb, h.bel.trans (below_le hb h.bel.size), h.mx.below hb⟩
theorem BI.drew {w : World} {a0 a1 a2 a3 b0 b1 b2 b3 : Value} {m : Int} {W : World} (h : BI w a0 a1 a2 a3 b0 b1 b2 b3 m W) : BI w a0 a1 a2 a3 b0 b1 b2 b3 m W.drew := h.below (Below.refl _ _).drew
theorem BI.fin {w : World} {a0 a1 a2 a3 b0 b1 b2 b3 : Value} {m : Int} {W W' : World} (h : BI w a0 a1 a2 a3 b0 b1 b2 b3 m W) {A B : Av} (hAB : B = A) {v : Value} (hv : ValV v A) (hb : Below W.heap.size W W') :
    VB W' (w.heap.size + 2) (.int .i64 0) (.float .f64 0) (.string ⟨#[]⟩) (.bool false) ∧ ∃ n, v = .agg #[.int .i64 A.t, .float .f64 n, .string (tx A.s), .bool A.b] ∧
      VB (putN W' (w.heap.size + 2) (.int .i64 A.t) (.float .f64 n) (.string (tx A.s)) (.bool A.b)) (w.heap.size + 2) (.int .i64 A.t) (.float .f64 n) (.string (tx A.s)) (.bool A.b) ∧
      VEnd B w (.returned (.agg #[.int .i64 A.t, .float .f64 n, .string (tx A.s), .bool A.b])) (putN W' (w.heap.size + 2) (.int .i64 A.t) (.float .f64 n) (.string (tx A.s)) (.bool A.b)) := by
  obtain ⟨n, rfl, hn⟩ := hv
  have h2 := h.below hb
  subst hAB
  exact ⟨h2.r, n, rfl, h2.r.put, below_put h2.bel (by omega), _, rfl, n, rfl, hn⟩
set_option maxRecDepth 100000 in
set_option maxHeartbeats 16000000 in
theorem wboth (op : Bs) (hop : takesT op = some 2) (va vb : Value) (a b : Av) (m : Int) (hs : a.s.length ≤ 1000000) (w : World) (ha : ValV va a) (hb : ValV vb b) (hm : MaxLn m w) : Calls Tryz.prog 83 #[.string (tx op), va, vb] w (VEnd (twoA op a b) w) := by
  obtain ⟨na, rfl, h1⟩ := ha
  obtain ⟨nb, rfl, h2⟩ := hb
  have HBI := Lib.hid (BI.start hm (.int .i64 a.t) (.float .f64 na) (.string (tx a.s)) (.bool a.b) (.int .i64 b.t) (.float .f64 nb) (.string (tx b.s)) (.bool b.b))
  have HTR := Lib.hid (fun c W => wtruthV c W)
  have HNM := Lib.hid (fun c W => wnumV c W)
  have HEQ : Hid (∀ W, Calls Tryz.prog 99 #[.agg #[.int .i64 a.t, .float .f64 na, .string (tx a.s), .bool a.b], .agg #[.int .i64 b.t, .float .f64 nb, .string (tx b.s), .bool b.b]] W fun e w' => e = .returned (.bool (eqA a b)) ∧ Below W.heap.size W w') := Lib.hid (fun W => wequalV _ _ a b W ⟨na, rfl, h1⟩ ⟨nb, rfl, h2⟩)
  have HCT : Hid (∀ W, MaxLn m W → Calls Tryz.prog 98 #[.string (tx a.s), .string (tx b.s)] W fun e w' => e = .returned (.bool (Lib.contains a.s b.s)) ∧ w' = W) := Lib.hid (fun W hW => by
    have h := Tryz.strings_Contains (tx a.s) (tx b.s) m W (by rw [tx_size']; omega) hW
    have e1 : (tx a.s).data.toList = a.s := by simp [tx]
    have e2 : (tx b.s).data.toList = b.s := by simp [tx]
    rw [e1, e2] at h
    exact h)
  obtain ⟨R, hR⟩ : ∃ R, R = twoA op a b := ⟨_, rfl⟩
  rw [← hR]
  have HH1 := Lib.hid h1
  have HH2 := Lib.hid h2
  clear h1 h2 hm
  rcases opcases op with ⟨ho, b0, b1, b2, b3, b4, b5, b6, b7, b8, b9, b10, b11, b12, b13, b14, b15, b16, b17, b18, b19⟩ | ⟨ho, b0, b1, b2, b3, b4, b5, b6, b7, b8, b9, b10, b11, b12, b13, b14, b15, b16, b17, b18, b19⟩ | ⟨ho, b0, b1, b2, b3, b4, b5, b6, b7, b8, b9, b10, b11, b12, b13, b14, b15, b16, b17, b18, b19⟩ | ⟨ho, b0, b1, b2, b3, b4, b5, b6, b7, b8, b9, b10, b11, b12, b13, b14, b15, b16, b17, b18, b19⟩ | ⟨ho, b0, b1, b2, b3, b4, b5, b6, b7, b8, b9, b10, b11, b12, b13, b14, b15, b16, b17, b18, b19⟩ | ⟨ho, b0, b1, b2, b3, b4, b5, b6, b7, b8, b9, b10, b11, b12, b13, b14, b15, b16, b17, b18, b19⟩ | ⟨ho, b0, b1, b2, b3, b4, b5, b6, b7, b8, b9, b10, b11, b12, b13, b14, b15, b16, b17, b18, b19⟩ | ⟨ho, b0, b1, b2, b3, b4, b5, b6, b7, b8, b9, b10, b11, b12, b13, b14, b15, b16, b17, b18, b19⟩ | ⟨ho, b0, b1, b2, b3, b4, b5, b6, b7, b8, b9, b10, b11, b12, b13, b14, b15, b16, b17, b18, b19⟩ | ⟨ho, b0, b1, b2, b3, b4, b5, b6, b7, b8, b9, b10, b11, b12, b13, b14, b15, b16, b17, b18, b19⟩ | ⟨ho, b0, b1, b2, b3, b4, b5, b6, b7, b8, b9, b10, b11, b12, b13, b14, b15, b16, b17, b18, b19⟩ | ⟨ho, b0, b1, b2, b3, b4, b5, b6, b7, b8, b9, b10, b11, b12, b13, b14, b15, b16, b17, b18, b19⟩ | ⟨ho, b0, b1, b2, b3, b4, b5, b6, b7, b8, b9, b10, b11, b12, b13, b14, b15, b16, b17, b18, b19⟩ | ⟨ho, b0, b1, b2, b3, b4, b5, b6, b7, b8, b9, b10, b11, b12, b13, b14, b15, b16, b17, b18, b19⟩ | ⟨ho, b0, b1, b2, b3, b4, b5, b6, b7, b8, b9, b10, b11, b12, b13, b14, b15, b16, b17, b18, b19⟩ | ⟨ho, b0, b1, b2, b3, b4, b5, b6, b7, b8, b9, b10, b11, b12, b13, b14, b15, b16, b17, b18, b19⟩ | ⟨ho, b0, b1, b2, b3, b4, b5, b6, b7, b8, b9, b10, b11, b12, b13, b14, b15, b16, b17, b18, b19⟩ | ⟨ho, b0, b1, b2, b3, b4, b5, b6, b7, b8, b9, b10, b11, b12, b13, b14, b15, b16, b17, b18, b19⟩ | ⟨ho, b0, b1, b2, b3, b4, b5, b6, b7, b8, b9, b10, b11, b12, b13, b14, b15, b16, b17, b18, b19⟩ | ⟨ho, b0, b1, b2, b3, b4, b5, b6, b7, b8, b9, b10, b11, b12, b13, b14, b15, b16, b17, b18, b19⟩ | ⟨ho, b0, b1, b2, b3, b4, b5, b6, b7, b8, b9, b10, b11, b12, b13, b14, b15, b16, b17, b18, b19⟩
  · subst ho; exact absurd hop (by decide)
  · subst ho; exact absurd hop (by decide)
  · subst ho; exact absurd hop (by decide)
  · subst ho; exact absurd hop (by decide)
  · subst ho; exact absurd hop (by decide)
  · subst ho; exact absurd hop (by decide)
  · subst ho; exact absurd hop (by decide)
  · clear hop
    have hM : twoA op a b = avB (a.b || b.b) := by subst ho; unfold twoA; rw [if_pos (by decide)]
    rw [hM] at hR
    clear HCT HEQ HNM HH1 HH2 ho hM hs
    obtain ⟨AB, hAB⟩ : ∃ x, x = a.b := ⟨_, rfl⟩
    obtain ⟨BB, hBB⟩ : ∃ x, x = b.b := ⟨_, rfl⟩
    rw [← hAB, ← hBB] at hR
    rw [← hAB, ← hBB] at HBI
    rw [← hAB, ← hBB]
    clear hAB hBB
    cases AB
    · have HM : Hid (R = avB BB) := Lib.hid (by rw [hR]; rfl)
      clear hR
      generalize tx op = T at *
      generalize a.t = at' at *
      generalize b.t = bt' at *
      generalize tx a.s = as' at *
      generalize tx b.s = bs' at *
      go_enter Tryz.func83, Tryz.ntmps83
      go_upto_region 1 with (fail)
      generalize (((w.alloc (.cells #[.int .i64 at', .float .f64 na, .string as', .bool false] 51)).alloc (.cells #[.int .i64 bt', .float .f64 nb, .string bs', .bool BB] 51)).alloc (.cells #[.int .i64 0, .float .f64 0, .string ⟨#[]⟩, .bool false] 51)) = W0 at HBI ⊢
      obtain ⟨c0, c1, c2, c3⟩ := HBI.out.a.cells
      obtain ⟨d0, d1, d2, d3⟩ := HBI.out.b.cells
      go_wp2_with (first | (go_at_call 80; fail))
      go_at_call 80
      refine (HTR.out _ _).mono ?_
      rintro e w5 ⟨hb5, v5, rfl, hv5⟩
      obtain ⟨hz, n5, rfl, hz2, hend⟩ := BI.fin HBI.out HM.out hv5 hb5
      have HE := Lib.hid (And.intro hz2 hend)
      obtain ⟨k0, k1, k2, k3⟩ := hz.cells
      have f0 := hz.fr 0
      have f1 := hz.fr 1
      have f2 := hz.fr 2
      have f3 := hz.fr 3
      clear hz hz2 hend hb5 hv5
      go_wp2
      exact bodyPost_ret (val_res rfl _ _ (w.heap.size + 2) _ _ _ _ rfl HE.out.1) rfl HE.out.2
    · have HM : Hid (R = avB true) := Lib.hid (by rw [hR]; rfl)
      clear hR
      generalize tx op = T at *
      generalize a.t = at' at *
      generalize b.t = bt' at *
      generalize tx a.s = as' at *
      generalize tx b.s = bs' at *
      go_enter Tryz.func83, Tryz.ntmps83
      go_upto_region 1 with (fail)
      generalize (((w.alloc (.cells #[.int .i64 at', .float .f64 na, .string as', .bool true] 51)).alloc (.cells #[.int .i64 bt', .float .f64 nb, .string bs', .bool BB] 51)).alloc (.cells #[.int .i64 0, .float .f64 0, .string ⟨#[]⟩, .bool false] 51)) = W0 at HBI ⊢
      obtain ⟨c0, c1, c2, c3⟩ := HBI.out.a.cells
      obtain ⟨d0, d1, d2, d3⟩ := HBI.out.b.cells
      go_wp2_with (first | (go_at_call 80; fail))
      go_at_call 80
      refine (HTR.out _ _).mono ?_
      rintro e w5 ⟨hb5, v5, rfl, hv5⟩
      obtain ⟨hz, n5, rfl, hz2, hend⟩ := BI.fin HBI.out HM.out hv5 hb5
      have HE := Lib.hid (And.intro hz2 hend)
      obtain ⟨k0, k1, k2, k3⟩ := hz.cells
      have f0 := hz.fr 0
      have f1 := hz.fr 1
      have f2 := hz.fr 2
      have f3 := hz.fr 3
      clear hz hz2 hend hb5 hv5
      go_wp2
      exact bodyPost_ret (val_res rfl _ _ (w.heap.size + 2) _ _ _ _ rfl HE.out.1) rfl HE.out.2
  · clear hop
    have hM : twoA op a b = avB (a.b && b.b) := by subst ho; unfold twoA; rw [if_neg (by decide), if_pos (by decide)]
    rw [hM] at hR
    clear HCT HEQ HNM HH1 HH2 ho hM hs
    obtain ⟨AB, hAB⟩ : ∃ x, x = a.b := ⟨_, rfl⟩
    obtain ⟨BB, hBB⟩ : ∃ x, x = b.b := ⟨_, rfl⟩
    rw [← hAB, ← hBB] at hR
    rw [← hAB, ← hBB] at HBI
    rw [← hAB, ← hBB]
    clear hAB hBB
    cases AB
    · have HM : Hid (R = avB false) := Lib.hid (by rw [hR]; rfl)
      clear hR
      generalize tx op = T at *
      generalize a.t = at' at *
      generalize b.t = bt' at *
      generalize tx a.s = as' at *
      generalize tx b.s = bs' at *
      go_enter Tryz.func83, Tryz.ntmps83
      go_upto_region 1 with (fail)
      generalize (((w.alloc (.cells #[.int .i64 at', .float .f64 na, .string as', .bool false] 51)).alloc (.cells #[.int .i64 bt', .float .f64 nb, .string bs', .bool BB] 51)).alloc (.cells #[.int .i64 0, .float .f64 0, .string ⟨#[]⟩, .bool false] 51)) = W0 at HBI ⊢
      obtain ⟨c0, c1, c2, c3⟩ := HBI.out.a.cells
      obtain ⟨d0, d1, d2, d3⟩ := HBI.out.b.cells
      go_wp2_with (first | (go_at_call 80; fail))
      go_at_call 80
      refine (HTR.out _ _).mono ?_
      rintro e w5 ⟨hb5, v5, rfl, hv5⟩
      obtain ⟨hz, n5, rfl, hz2, hend⟩ := BI.fin HBI.out HM.out hv5 hb5
      have HE := Lib.hid (And.intro hz2 hend)
      obtain ⟨k0, k1, k2, k3⟩ := hz.cells
      have f0 := hz.fr 0
      have f1 := hz.fr 1
      have f2 := hz.fr 2
      have f3 := hz.fr 3
      clear hz hz2 hend hb5 hv5
      go_wp2
      exact bodyPost_ret (val_res rfl _ _ (w.heap.size + 2) _ _ _ _ rfl HE.out.1) rfl HE.out.2
    · have HM : Hid (R = avB BB) := Lib.hid (by rw [hR]; rfl)
      clear hR
      generalize tx op = T at *
      generalize a.t = at' at *
      generalize b.t = bt' at *
      generalize tx a.s = as' at *
      generalize tx b.s = bs' at *
      go_enter Tryz.func83, Tryz.ntmps83
      go_upto_region 1 with (fail)
      generalize (((w.alloc (.cells #[.int .i64 at', .float .f64 na, .string as', .bool true] 51)).alloc (.cells #[.int .i64 bt', .float .f64 nb, .string bs', .bool BB] 51)).alloc (.cells #[.int .i64 0, .float .f64 0, .string ⟨#[]⟩, .bool false] 51)) = W0 at HBI ⊢
      obtain ⟨c0, c1, c2, c3⟩ := HBI.out.a.cells
      obtain ⟨d0, d1, d2, d3⟩ := HBI.out.b.cells
      go_wp2_with (first | (go_at_call 80; fail))
      go_at_call 80
      refine (HTR.out _ _).mono ?_
      rintro e w5 ⟨hb5, v5, rfl, hv5⟩
      obtain ⟨hz, n5, rfl, hz2, hend⟩ := BI.fin HBI.out HM.out hv5 hb5
      have HE := Lib.hid (And.intro hz2 hend)
      obtain ⟨k0, k1, k2, k3⟩ := hz.cells
      have f0 := hz.fr 0
      have f1 := hz.fr 1
      have f2 := hz.fr 2
      have f3 := hz.fr 3
      clear hz hz2 hend hb5 hv5
      go_wp2
      exact bodyPost_ret (val_res rfl _ _ (w.heap.size + 2) _ _ _ _ rfl HE.out.1) rfl HE.out.2
  · clear hop
    have hM : twoA op a b = avB (Lib.contains a.s b.s) := by subst ho; unfold twoA; rw [if_neg (by decide), if_neg (by decide), if_pos (by decide)]
    have HM : Hid (R = avB (Lib.contains a.s b.s)) := Lib.hid (hR.trans hM)
    clear HEQ HNM HH1 HH2 ho hM hR hs
    generalize Lib.contains a.s b.s = CC at HM HCT
    generalize tx op = T at *
    generalize a.t = at' at *
    generalize b.t = bt' at *
    generalize tx a.s = as' at *
    generalize tx b.s = bs' at *
    generalize a.b = ab' at *
    generalize b.b = bb' at *
    go_enter Tryz.func83, Tryz.ntmps83
    go_upto_region 1 with (fail)
    generalize (((w.alloc (.cells #[.int .i64 at', .float .f64 na, .string as', .bool ab'] 51)).alloc (.cells #[.int .i64 bt', .float .f64 nb, .string bs', .bool bb'] 51)).alloc (.cells #[.int .i64 0, .float .f64 0, .string ⟨#[]⟩, .bool false] 51)) = W0 at HBI ⊢
    obtain ⟨c0, c1, c2, c3⟩ := HBI.out.a.cells
    obtain ⟨d0, d1, d2, d3⟩ := HBI.out.b.cells
    go_wp2_with (first | (go_at_call 98; refine (HCT.out _ HBI.out.mx).mono ?_; rintro e w4 ⟨rfl, rfl⟩) | (go_at_call 80; fail))
    go_at_call 80
    refine (HTR.out _ _).mono ?_
    rintro e w5 ⟨hb5, v5, rfl, hv5⟩
    obtain ⟨hz, n5, rfl, hz2, hend⟩ := BI.fin HBI.out HM.out hv5 hb5
    have HE := Lib.hid (And.intro hz2 hend)
    obtain ⟨k0, k1, k2, k3⟩ := hz.cells
    have f0 := hz.fr 0
    have f1 := hz.fr 1
    have f2 := hz.fr 2
    have f3 := hz.fr 3
    clear hz hz2 hend hb5 hv5
    go_wp2
    exact bodyPost_ret (val_res rfl _ _ (w.heap.size + 2) _ _ _ _ rfl HE.out.1) rfl HE.out.2
  · clear hop
    have hM : twoA op a b = avB (eqA a b) := by subst ho; unfold twoA; rw [if_neg (by decide), if_neg (by decide), if_neg (by decide), if_pos (by decide)]
    have HM : Hid (R = avB (eqA a b)) := Lib.hid (hR.trans hM)
    clear HCT HNM HH1 HH2 ho hM hR hs
    generalize eqA a b = CC at HM HEQ
    generalize tx op = T at *
    generalize a.t = at' at *
    generalize b.t = bt' at *
    generalize tx a.s = as' at *
    generalize tx b.s = bs' at *
    generalize a.b = ab' at *
    generalize b.b = bb' at *
    go_enter Tryz.func83, Tryz.ntmps83
    go_upto_region 1 with (fail)
    generalize (((w.alloc (.cells #[.int .i64 at', .float .f64 na, .string as', .bool ab'] 51)).alloc (.cells #[.int .i64 bt', .float .f64 nb, .string bs', .bool bb'] 51)).alloc (.cells #[.int .i64 0, .float .f64 0, .string ⟨#[]⟩, .bool false] 51)) = W0 at HBI ⊢
    obtain ⟨c0, c1, c2, c3⟩ := HBI.out.a.cells
    obtain ⟨d0, d1, d2, d3⟩ := HBI.out.b.cells
    go_wp2_with (first | (go_at_call 99; fail))
    refine (HEQ.out _).mono ?_
    rintro e w4 ⟨rfl, hb4⟩
    have HB4 := Lib.hid (HBI.out.below hb4)
    clear hb4
    go_wp2_with (first | (go_at_call 80; fail))
    go_at_call 80
    refine (HTR.out _ _).mono ?_
    rintro e w5 ⟨hb5, v5, rfl, hv5⟩
    obtain ⟨hz, n5, rfl, hz2, hend⟩ := BI.fin HB4.out HM.out hv5 hb5
    have HE := Lib.hid (And.intro hz2 hend)
    obtain ⟨k0, k1, k2, k3⟩ := hz.cells
    have f0 := hz.fr 0
    have f1 := hz.fr 1
    have f2 := hz.fr 2
    have f3 := hz.fr 3
    clear hz hz2 hend hb5 hv5
    go_wp2
    exact bodyPost_ret (val_res rfl _ _ (w.heap.size + 2) _ _ _ _ rfl HE.out.1) rfl HE.out.2
  · clear hop
    have hM : twoA op a b = avB (!eqA a b) := by subst ho; unfold twoA; rw [if_neg (by decide), if_neg (by decide), if_neg (by decide), if_neg (by decide), if_pos (by decide)]
    have HM : Hid (R = avB (!eqA a b)) := Lib.hid (hR.trans hM)
    clear HCT HNM HH1 HH2 ho hM hR hs
    generalize eqA a b = CC at HM HEQ
    generalize tx op = T at *
    generalize a.t = at' at *
    generalize b.t = bt' at *
    generalize tx a.s = as' at *
    generalize tx b.s = bs' at *
    generalize a.b = ab' at *
    generalize b.b = bb' at *
    go_enter Tryz.func83, Tryz.ntmps83
    go_upto_region 1 with (fail)
    generalize (((w.alloc (.cells #[.int .i64 at', .float .f64 na, .string as', .bool ab'] 51)).alloc (.cells #[.int .i64 bt', .float .f64 nb, .string bs', .bool bb'] 51)).alloc (.cells #[.int .i64 0, .float .f64 0, .string ⟨#[]⟩, .bool false] 51)) = W0 at HBI ⊢
    obtain ⟨c0, c1, c2, c3⟩ := HBI.out.a.cells
    obtain ⟨d0, d1, d2, d3⟩ := HBI.out.b.cells
    go_wp2_with (first | (go_at_call 99; fail))
    refine (HEQ.out _).mono ?_
    rintro e w4 ⟨rfl, hb4⟩
    have HB4 := Lib.hid (HBI.out.below hb4)
    clear hb4
    go_wp2_with (first | (go_at_call 80; fail))
    go_at_call 80
    refine (HTR.out _ _).mono ?_
    rintro e w5 ⟨hb5, v5, rfl, hv5⟩
    obtain ⟨hz, n5, rfl, hz2, hend⟩ := BI.fin HB4.out HM.out hv5 hb5
    have HE := Lib.hid (And.intro hz2 hend)
    obtain ⟨k0, k1, k2, k3⟩ := hz.cells
    have f0 := hz.fr 0
    have f1 := hz.fr 1
    have f2 := hz.fr 2
    have f3 := hz.fr 3
    clear hz hz2 hend hb5 hv5
    go_wp2
    exact bodyPost_ret (val_res rfl _ _ (w.heap.size + 2) _ _ _ _ rfl HE.out.1) rfl HE.out.2
  · clear hop
    have hM : twoA op a b = avB (cmpA isLt a.n b.n) := by subst ho; unfold twoA; rw [if_neg (by decide), if_neg (by decide), if_neg (by decide), if_neg (by decide), if_neg (by decide), if_pos (by decide)]
    have HM : Hid (R = avB (FloatKind.f64.format.order na nb == some .lt)) := Lib.hid (by rw [hR, hM, isLt_order, HH1.out, HH2.out])
    clear HCT HEQ HNM HH1 HH2 ho hM hR hs
    generalize tx op = T at *
    generalize a.t = at' at *
    generalize b.t = bt' at *
    generalize tx a.s = as' at *
    generalize tx b.s = bs' at *
    generalize a.b = ab' at *
    generalize b.b = bb' at *
    go_enter Tryz.func83, Tryz.ntmps83
    go_upto_region 1 with (fail)
    generalize (((w.alloc (.cells #[.int .i64 at', .float .f64 na, .string as', .bool ab'] 51)).alloc (.cells #[.int .i64 bt', .float .f64 nb, .string bs', .bool bb'] 51)).alloc (.cells #[.int .i64 0, .float .f64 0, .string ⟨#[]⟩, .bool false] 51)) = W0 at HBI ⊢
    obtain ⟨c0, c1, c2, c3⟩ := HBI.out.a.cells
    obtain ⟨d0, d1, d2, d3⟩ := HBI.out.b.cells
    go_wp2_with (first | (go_at_call 80; fail))
    go_at_call 80
    refine (HTR.out _ _).mono ?_
    rintro e w5 ⟨hb5, v5, rfl, hv5⟩
    obtain ⟨hz, n5, rfl, hz2, hend⟩ := BI.fin HBI.out HM.out hv5 hb5
    have HE := Lib.hid (And.intro hz2 hend)
    obtain ⟨k0, k1, k2, k3⟩ := hz.cells
    have f0 := hz.fr 0
    have f1 := hz.fr 1
    have f2 := hz.fr 2
    have f3 := hz.fr 3
    clear hz hz2 hend hb5 hv5
    go_wp2
    exact bodyPost_ret (val_res rfl _ _ (w.heap.size + 2) _ _ _ _ rfl HE.out.1) rfl HE.out.2
  · clear hop
    have hM : twoA op a b = avB (cmpA isLe a.n b.n) := by subst ho; unfold twoA; rw [if_neg (by decide), if_neg (by decide), if_neg (by decide), if_neg (by decide), if_neg (by decide), if_neg (by decide), if_pos (by decide)]
    have HM : Hid (R = avB (FloatKind.f64.format.order na nb == some .lt || FloatKind.f64.format.order na nb == some .eq)) := Lib.hid (by rw [hR, hM, isLe_order, HH1.out, HH2.out])
    clear HCT HEQ HNM HH1 HH2 ho hM hR hs
    generalize tx op = T at *
    generalize a.t = at' at *
    generalize b.t = bt' at *
    generalize tx a.s = as' at *
    generalize tx b.s = bs' at *
    generalize a.b = ab' at *
    generalize b.b = bb' at *
    go_enter Tryz.func83, Tryz.ntmps83
    go_upto_region 1 with (fail)
    generalize (((w.alloc (.cells #[.int .i64 at', .float .f64 na, .string as', .bool ab'] 51)).alloc (.cells #[.int .i64 bt', .float .f64 nb, .string bs', .bool bb'] 51)).alloc (.cells #[.int .i64 0, .float .f64 0, .string ⟨#[]⟩, .bool false] 51)) = W0 at HBI ⊢
    obtain ⟨c0, c1, c2, c3⟩ := HBI.out.a.cells
    obtain ⟨d0, d1, d2, d3⟩ := HBI.out.b.cells
    go_wp2_with (first | (go_at_call 80; fail))
    go_at_call 80
    refine (HTR.out _ _).mono ?_
    rintro e w5 ⟨hb5, v5, rfl, hv5⟩
    obtain ⟨hz, n5, rfl, hz2, hend⟩ := BI.fin HBI.out HM.out hv5 hb5
    have HE := Lib.hid (And.intro hz2 hend)
    obtain ⟨k0, k1, k2, k3⟩ := hz.cells
    have f0 := hz.fr 0
    have f1 := hz.fr 1
    have f2 := hz.fr 2
    have f3 := hz.fr 3
    clear hz hz2 hend hb5 hv5
    go_wp2
    exact bodyPost_ret (val_res rfl _ _ (w.heap.size + 2) _ _ _ _ rfl HE.out.1) rfl HE.out.2
  · clear hop
    have hM : twoA op a b = avB (cmpA isGt a.n b.n) := by subst ho; unfold twoA; rw [if_neg (by decide), if_neg (by decide), if_neg (by decide), if_neg (by decide), if_neg (by decide), if_neg (by decide), if_neg (by decide), if_pos (by decide)]
    have HM : Hid (R = avB (FloatKind.f64.format.order na nb == some .gt)) := Lib.hid (by rw [hR, hM, isGt_order, HH1.out, HH2.out])
    clear HCT HEQ HNM HH1 HH2 ho hM hR hs
    generalize tx op = T at *
    generalize a.t = at' at *
    generalize b.t = bt' at *
    generalize tx a.s = as' at *
    generalize tx b.s = bs' at *
    generalize a.b = ab' at *
    generalize b.b = bb' at *
    go_enter Tryz.func83, Tryz.ntmps83
    go_upto_region 1 with (fail)
    generalize (((w.alloc (.cells #[.int .i64 at', .float .f64 na, .string as', .bool ab'] 51)).alloc (.cells #[.int .i64 bt', .float .f64 nb, .string bs', .bool bb'] 51)).alloc (.cells #[.int .i64 0, .float .f64 0, .string ⟨#[]⟩, .bool false] 51)) = W0 at HBI ⊢
    obtain ⟨c0, c1, c2, c3⟩ := HBI.out.a.cells
    obtain ⟨d0, d1, d2, d3⟩ := HBI.out.b.cells
    go_wp2_with (first | (go_at_call 80; fail))
    go_at_call 80
    refine (HTR.out _ _).mono ?_
    rintro e w5 ⟨hb5, v5, rfl, hv5⟩
    obtain ⟨hz, n5, rfl, hz2, hend⟩ := BI.fin HBI.out HM.out hv5 hb5
    have HE := Lib.hid (And.intro hz2 hend)
    obtain ⟨k0, k1, k2, k3⟩ := hz.cells
    have f0 := hz.fr 0
    have f1 := hz.fr 1
    have f2 := hz.fr 2
    have f3 := hz.fr 3
    clear hz hz2 hend hb5 hv5
    go_wp2
    exact bodyPost_ret (val_res rfl _ _ (w.heap.size + 2) _ _ _ _ rfl HE.out.1) rfl HE.out.2
  · clear hop
    have hM : twoA op a b = avB (cmpA isGe a.n b.n) := by subst ho; unfold twoA; rw [if_neg (by decide), if_neg (by decide), if_neg (by decide), if_neg (by decide), if_neg (by decide), if_neg (by decide), if_neg (by decide), if_neg (by decide), if_pos (by decide)]
    have HM : Hid (R = avB (FloatKind.f64.format.order na nb == some .gt || FloatKind.f64.format.order na nb == some .eq)) := Lib.hid (by rw [hR, hM, isGe_order, HH1.out, HH2.out])
    clear HCT HEQ HNM HH1 HH2 ho hM hR hs
    generalize tx op = T at *
    generalize a.t = at' at *
    generalize b.t = bt' at *
    generalize tx a.s = as' at *
    generalize tx b.s = bs' at *
    generalize a.b = ab' at *
    generalize b.b = bb' at *
    go_enter Tryz.func83, Tryz.ntmps83
    go_upto_region 1 with (fail)
    generalize (((w.alloc (.cells #[.int .i64 at', .float .f64 na, .string as', .bool ab'] 51)).alloc (.cells #[.int .i64 bt', .float .f64 nb, .string bs', .bool bb'] 51)).alloc (.cells #[.int .i64 0, .float .f64 0, .string ⟨#[]⟩, .bool false] 51)) = W0 at HBI ⊢
    obtain ⟨c0, c1, c2, c3⟩ := HBI.out.a.cells
    obtain ⟨d0, d1, d2, d3⟩ := HBI.out.b.cells
    go_wp2_with (first | (go_at_call 80; fail))
    go_at_call 80
    refine (HTR.out _ _).mono ?_
    rintro e w5 ⟨hb5, v5, rfl, hv5⟩
    obtain ⟨hz, n5, rfl, hz2, hend⟩ := BI.fin HBI.out HM.out hv5 hb5
    have HE := Lib.hid (And.intro hz2 hend)
    obtain ⟨k0, k1, k2, k3⟩ := hz.cells
    have f0 := hz.fr 0
    have f1 := hz.fr 1
    have f2 := hz.fr 2
    have f3 := hz.fr 3
    clear hz hz2 hend hb5 hv5
    go_wp2
    exact bodyPost_ret (val_res rfl _ _ (w.heap.size + 2) _ _ _ _ rfl HE.out.1) rfl HE.out.2
  · clear hop
    have hM : twoA op a b = avN (arA double.add a.n b.n) := by subst ho; unfold twoA; rw [if_neg (by decide), if_neg (by decide), if_neg (by decide), if_neg (by decide), if_neg (by decide), if_neg (by decide), if_neg (by decide), if_neg (by decide), if_neg (by decide), if_pos (by decide)]
    clear HCT HEQ HTR hs
    cases hfb : floatBits .add .f64 na nb with
    | none =>
      have HM : Hid (∀ W, R = avN (fA (nanB na nb W))) := Lib.hid (fun W => by rw [hR, hM, arA_none (op := .add) (f := double.add) (fun _ _ => rfl) W hfb, HH1.out, HH2.out])
      have hV : ∀ W, (binOp BinOp.add 22 (.float .f64 na) (.float .f64 nb)).run Tryz.prog W = .ok (.float .f64 (nanB na nb W)) W.drew := fun W => run_float_nan Tryz.prog W .add (.inl rfl) 22 na nb hfb
      clear HH1 HH2 ho hM hR hfb
      generalize tx op = T at *
      generalize a.t = at' at *
      generalize b.t = bt' at *
      generalize tx a.s = as' at *
      generalize tx b.s = bs' at *
      generalize a.b = ab' at *
      generalize b.b = bb' at *
      go_enter Tryz.func83, Tryz.ntmps83
      go_upto_region 1 with (fail)
      generalize (((w.alloc (.cells #[.int .i64 at', .float .f64 na, .string as', .bool ab'] 51)).alloc (.cells #[.int .i64 bt', .float .f64 nb, .string bs', .bool bb'] 51)).alloc (.cells #[.int .i64 0, .float .f64 0, .string ⟨#[]⟩, .bool false] 51)) = W0 at HBI ⊢
      obtain ⟨c0, c1, c2, c3⟩ := HBI.out.a.cells
      obtain ⟨d0, d1, d2, d3⟩ := HBI.out.b.cells
      have HM := Lib.hid (HM.out W0)
      have HB4 := Lib.hid HBI.out.drew
      go_wp2_with (first | (go_at_call 79; fail))
      go_at_call 79
      refine (HNM.out _ _).mono ?_
      rintro e w5 ⟨hb5, v5, rfl, hv5⟩
      obtain ⟨hz, n5, rfl, hz2, hend⟩ := BI.fin HB4.out HM.out hv5 hb5
      have HE := Lib.hid (And.intro hz2 hend)
      obtain ⟨k0, k1, k2, k3⟩ := hz.cells
      have f0 := hz.fr 0
      have f1 := hz.fr 1
      have f2 := hz.fr 2
      have f3 := hz.fr 3
      clear hz hz2 hend hb5 hv5
      go_wp2
      exact bodyPost_ret (val_res rfl _ _ (w.heap.size + 2) _ _ _ _ rfl HE.out.1) rfl HE.out.2
    | some rr =>
      have HM : Hid (R = avN (fA rr)) := Lib.hid (by rw [hR, hM, arA_some (op := .add) (f := double.add) (fun _ _ => rfl) hfb, HH1.out, HH2.out])
      have hV : ∀ W, (binOp BinOp.add 22 (.float .f64 na) (.float .f64 nb)).run Tryz.prog W = .ok (.float .f64 rr) W := fun W => run_float_arith W .add 22 .f64 _ _ _ hfb
      clear HH1 HH2 ho hM hR hfb
      generalize tx op = T at *
      generalize a.t = at' at *
      generalize b.t = bt' at *
      generalize tx a.s = as' at *
      generalize tx b.s = bs' at *
      generalize a.b = ab' at *
      generalize b.b = bb' at *
      go_enter Tryz.func83, Tryz.ntmps83
      go_upto_region 1 with (fail)
      generalize (((w.alloc (.cells #[.int .i64 at', .float .f64 na, .string as', .bool ab'] 51)).alloc (.cells #[.int .i64 bt', .float .f64 nb, .string bs', .bool bb'] 51)).alloc (.cells #[.int .i64 0, .float .f64 0, .string ⟨#[]⟩, .bool false] 51)) = W0 at HBI ⊢
      obtain ⟨c0, c1, c2, c3⟩ := HBI.out.a.cells
      obtain ⟨d0, d1, d2, d3⟩ := HBI.out.b.cells
      go_wp2_with (first | (go_at_call 79; fail))
      go_at_call 79
      refine (HNM.out _ _).mono ?_
      rintro e w5 ⟨hb5, v5, rfl, hv5⟩
      obtain ⟨hz, n5, rfl, hz2, hend⟩ := BI.fin HBI.out HM.out hv5 hb5
      have HE := Lib.hid (And.intro hz2 hend)
      obtain ⟨k0, k1, k2, k3⟩ := hz.cells
      have f0 := hz.fr 0
      have f1 := hz.fr 1
      have f2 := hz.fr 2
      have f3 := hz.fr 3
      clear hz hz2 hend hb5 hv5
      go_wp2
      exact bodyPost_ret (val_res rfl _ _ (w.heap.size + 2) _ _ _ _ rfl HE.out.1) rfl HE.out.2
  · clear hop
    have hM : twoA op a b = avN (arA double.sub a.n b.n) := by subst ho; unfold twoA; rw [if_neg (by decide), if_neg (by decide), if_neg (by decide), if_neg (by decide), if_neg (by decide), if_neg (by decide), if_neg (by decide), if_neg (by decide), if_neg (by decide), if_neg (by decide), if_pos (by decide)]
    clear HCT HEQ HTR hs
    cases hfb : floatBits .sub .f64 na nb with
    | none =>
      have HM : Hid (∀ W, R = avN (fA (nanB na nb W))) := Lib.hid (fun W => by rw [hR, hM, arA_none (op := .sub) (f := double.sub) (fun _ _ => rfl) W hfb, HH1.out, HH2.out])
      have hV : ∀ W, (binOp BinOp.sub 22 (.float .f64 na) (.float .f64 nb)).run Tryz.prog W = .ok (.float .f64 (nanB na nb W)) W.drew := fun W => run_float_nan Tryz.prog W .sub (.inr (.inl rfl)) 22 na nb hfb
      clear HH1 HH2 ho hM hR hfb
      generalize tx op = T at *
      generalize a.t = at' at *
      generalize b.t = bt' at *
      generalize tx a.s = as' at *
      generalize tx b.s = bs' at *
      generalize a.b = ab' at *
      generalize b.b = bb' at *
      go_enter Tryz.func83, Tryz.ntmps83
      go_upto_region 1 with (fail)
      generalize (((w.alloc (.cells #[.int .i64 at', .float .f64 na, .string as', .bool ab'] 51)).alloc (.cells #[.int .i64 bt', .float .f64 nb, .string bs', .bool bb'] 51)).alloc (.cells #[.int .i64 0, .float .f64 0, .string ⟨#[]⟩, .bool false] 51)) = W0 at HBI ⊢
      obtain ⟨c0, c1, c2, c3⟩ := HBI.out.a.cells
      obtain ⟨d0, d1, d2, d3⟩ := HBI.out.b.cells
      have HM := Lib.hid (HM.out W0)
      have HB4 := Lib.hid HBI.out.drew
      go_wp2_with (first | (go_at_call 79; fail))
      go_at_call 79
      refine (HNM.out _ _).mono ?_
      rintro e w5 ⟨hb5, v5, rfl, hv5⟩
      obtain ⟨hz, n5, rfl, hz2, hend⟩ := BI.fin HB4.out HM.out hv5 hb5
      have HE := Lib.hid (And.intro hz2 hend)
      obtain ⟨k0, k1, k2, k3⟩ := hz.cells
      have f0 := hz.fr 0
      have f1 := hz.fr 1
      have f2 := hz.fr 2
      have f3 := hz.fr 3
      clear hz hz2 hend hb5 hv5
      go_wp2
      exact bodyPost_ret (val_res rfl _ _ (w.heap.size + 2) _ _ _ _ rfl HE.out.1) rfl HE.out.2
    | some rr =>
      have HM : Hid (R = avN (fA rr)) := Lib.hid (by rw [hR, hM, arA_some (op := .sub) (f := double.sub) (fun _ _ => rfl) hfb, HH1.out, HH2.out])
      have hV : ∀ W, (binOp BinOp.sub 22 (.float .f64 na) (.float .f64 nb)).run Tryz.prog W = .ok (.float .f64 rr) W := fun W => run_float_arith W .sub 22 .f64 _ _ _ hfb
      clear HH1 HH2 ho hM hR hfb
      generalize tx op = T at *
      generalize a.t = at' at *
      generalize b.t = bt' at *
      generalize tx a.s = as' at *
      generalize tx b.s = bs' at *
      generalize a.b = ab' at *
      generalize b.b = bb' at *
      go_enter Tryz.func83, Tryz.ntmps83
      go_upto_region 1 with (fail)
      generalize (((w.alloc (.cells #[.int .i64 at', .float .f64 na, .string as', .bool ab'] 51)).alloc (.cells #[.int .i64 bt', .float .f64 nb, .string bs', .bool bb'] 51)).alloc (.cells #[.int .i64 0, .float .f64 0, .string ⟨#[]⟩, .bool false] 51)) = W0 at HBI ⊢
      obtain ⟨c0, c1, c2, c3⟩ := HBI.out.a.cells
      obtain ⟨d0, d1, d2, d3⟩ := HBI.out.b.cells
      go_wp2_with (first | (go_at_call 79; fail))
      go_at_call 79
      refine (HNM.out _ _).mono ?_
      rintro e w5 ⟨hb5, v5, rfl, hv5⟩
      obtain ⟨hz, n5, rfl, hz2, hend⟩ := BI.fin HBI.out HM.out hv5 hb5
      have HE := Lib.hid (And.intro hz2 hend)
      obtain ⟨k0, k1, k2, k3⟩ := hz.cells
      have f0 := hz.fr 0
      have f1 := hz.fr 1
      have f2 := hz.fr 2
      have f3 := hz.fr 3
      clear hz hz2 hend hb5 hv5
      go_wp2
      exact bodyPost_ret (val_res rfl _ _ (w.heap.size + 2) _ _ _ _ rfl HE.out.1) rfl HE.out.2
  · clear hop
    have hM : twoA op a b = avN (arA double.mul a.n b.n) := by subst ho; unfold twoA; rw [if_neg (by decide), if_neg (by decide), if_neg (by decide), if_neg (by decide), if_neg (by decide), if_neg (by decide), if_neg (by decide), if_neg (by decide), if_neg (by decide), if_neg (by decide), if_neg (by decide), if_pos (by decide)]
    clear HCT HEQ HTR hs
    cases hfb : floatBits .mul .f64 na nb with
    | none =>
      have HM : Hid (∀ W, R = avN (fA (nanB na nb W))) := Lib.hid (fun W => by rw [hR, hM, arA_none (op := .mul) (f := double.mul) (fun _ _ => rfl) W hfb, HH1.out, HH2.out])
      have hV : ∀ W, (binOp BinOp.mul 22 (.float .f64 na) (.float .f64 nb)).run Tryz.prog W = .ok (.float .f64 (nanB na nb W)) W.drew := fun W => run_float_nan Tryz.prog W .mul (.inr (.inr (.inl rfl))) 22 na nb hfb
      clear HH1 HH2 ho hM hR hfb
      generalize tx op = T at *
      generalize a.t = at' at *
      generalize b.t = bt' at *
      generalize tx a.s = as' at *
      generalize tx b.s = bs' at *
      generalize a.b = ab' at *
      generalize b.b = bb' at *
      go_enter Tryz.func83, Tryz.ntmps83
      go_upto_region 1 with (fail)
      generalize (((w.alloc (.cells #[.int .i64 at', .float .f64 na, .string as', .bool ab'] 51)).alloc (.cells #[.int .i64 bt', .float .f64 nb, .string bs', .bool bb'] 51)).alloc (.cells #[.int .i64 0, .float .f64 0, .string ⟨#[]⟩, .bool false] 51)) = W0 at HBI ⊢
      obtain ⟨c0, c1, c2, c3⟩ := HBI.out.a.cells
      obtain ⟨d0, d1, d2, d3⟩ := HBI.out.b.cells
      have HM := Lib.hid (HM.out W0)
      have HB4 := Lib.hid HBI.out.drew
      go_wp2_with (first | (go_at_call 79; fail))
      go_at_call 79
      refine (HNM.out _ _).mono ?_
      rintro e w5 ⟨hb5, v5, rfl, hv5⟩
      obtain ⟨hz, n5, rfl, hz2, hend⟩ := BI.fin HB4.out HM.out hv5 hb5
      have HE := Lib.hid (And.intro hz2 hend)
      obtain ⟨k0, k1, k2, k3⟩ := hz.cells
      have f0 := hz.fr 0
      have f1 := hz.fr 1
      have f2 := hz.fr 2
      have f3 := hz.fr 3
      clear hz hz2 hend hb5 hv5
      go_wp2
      exact bodyPost_ret (val_res rfl _ _ (w.heap.size + 2) _ _ _ _ rfl HE.out.1) rfl HE.out.2
    | some rr =>
      have HM : Hid (R = avN (fA rr)) := Lib.hid (by rw [hR, hM, arA_some (op := .mul) (f := double.mul) (fun _ _ => rfl) hfb, HH1.out, HH2.out])
      have hV : ∀ W, (binOp BinOp.mul 22 (.float .f64 na) (.float .f64 nb)).run Tryz.prog W = .ok (.float .f64 rr) W := fun W => run_float_arith W .mul 22 .f64 _ _ _ hfb
      clear HH1 HH2 ho hM hR hfb
      generalize tx op = T at *
      generalize a.t = at' at *
      generalize b.t = bt' at *
      generalize tx a.s = as' at *
      generalize tx b.s = bs' at *
      generalize a.b = ab' at *
      generalize b.b = bb' at *
      go_enter Tryz.func83, Tryz.ntmps83
      go_upto_region 1 with (fail)
      generalize (((w.alloc (.cells #[.int .i64 at', .float .f64 na, .string as', .bool ab'] 51)).alloc (.cells #[.int .i64 bt', .float .f64 nb, .string bs', .bool bb'] 51)).alloc (.cells #[.int .i64 0, .float .f64 0, .string ⟨#[]⟩, .bool false] 51)) = W0 at HBI ⊢
      obtain ⟨c0, c1, c2, c3⟩ := HBI.out.a.cells
      obtain ⟨d0, d1, d2, d3⟩ := HBI.out.b.cells
      go_wp2_with (first | (go_at_call 79; fail))
      go_at_call 79
      refine (HNM.out _ _).mono ?_
      rintro e w5 ⟨hb5, v5, rfl, hv5⟩
      obtain ⟨hz, n5, rfl, hz2, hend⟩ := BI.fin HBI.out HM.out hv5 hb5
      have HE := Lib.hid (And.intro hz2 hend)
      obtain ⟨k0, k1, k2, k3⟩ := hz.cells
      have f0 := hz.fr 0
      have f1 := hz.fr 1
      have f2 := hz.fr 2
      have f3 := hz.fr 3
      clear hz hz2 hend hb5 hv5
      go_wp2
      exact bodyPost_ret (val_res rfl _ _ (w.heap.size + 2) _ _ _ _ rfl HE.out.1) rfl HE.out.2
  · clear hop
    have hM : twoA op a b = avN (arA double.div a.n b.n) := by subst ho; unfold twoA; rw [if_neg (by decide), if_neg (by decide), if_neg (by decide), if_neg (by decide), if_neg (by decide), if_neg (by decide), if_neg (by decide), if_neg (by decide), if_neg (by decide), if_neg (by decide), if_neg (by decide), if_neg (by decide)]
    clear HCT HEQ HTR hs
    cases hfb : floatBits .quo .f64 na nb with
    | none =>
      have HM : Hid (∀ W, R = avN (fA (nanB na nb W))) := Lib.hid (fun W => by rw [hR, hM, arA_none (op := .quo) (f := double.div) (fun _ _ => rfl) W hfb, HH1.out, HH2.out])
      have hV : ∀ W, (binOp BinOp.quo 22 (.float .f64 na) (.float .f64 nb)).run Tryz.prog W = .ok (.float .f64 (nanB na nb W)) W.drew := fun W => run_float_nan Tryz.prog W .quo (.inr (.inr (.inr rfl))) 22 na nb hfb
      clear HH1 HH2 ho hM hR hfb
      generalize tx op = T at *
      generalize a.t = at' at *
      generalize b.t = bt' at *
      generalize tx a.s = as' at *
      generalize tx b.s = bs' at *
      generalize a.b = ab' at *
      generalize b.b = bb' at *
      go_enter Tryz.func83, Tryz.ntmps83
      go_upto_region 1 with (fail)
      generalize (((w.alloc (.cells #[.int .i64 at', .float .f64 na, .string as', .bool ab'] 51)).alloc (.cells #[.int .i64 bt', .float .f64 nb, .string bs', .bool bb'] 51)).alloc (.cells #[.int .i64 0, .float .f64 0, .string ⟨#[]⟩, .bool false] 51)) = W0 at HBI ⊢
      obtain ⟨c0, c1, c2, c3⟩ := HBI.out.a.cells
      obtain ⟨d0, d1, d2, d3⟩ := HBI.out.b.cells
      have HM := Lib.hid (HM.out W0)
      have HB4 := Lib.hid HBI.out.drew
      go_wp2_with (first | (go_at_call 79; fail))
      go_at_call 79
      refine (HNM.out _ _).mono ?_
      rintro e w5 ⟨hb5, v5, rfl, hv5⟩
      obtain ⟨hz, n5, rfl, hz2, hend⟩ := BI.fin HB4.out HM.out hv5 hb5
      have HE := Lib.hid (And.intro hz2 hend)
      obtain ⟨k0, k1, k2, k3⟩ := hz.cells
      have f0 := hz.fr 0
      have f1 := hz.fr 1
      have f2 := hz.fr 2
      have f3 := hz.fr 3
      clear hz hz2 hend hb5 hv5
      go_wp2
      exact bodyPost_ret (val_res rfl _ _ (w.heap.size + 2) _ _ _ _ rfl HE.out.1) rfl HE.out.2
    | some rr =>
      have HM : Hid (R = avN (fA rr)) := Lib.hid (by rw [hR, hM, arA_some (op := .quo) (f := double.div) (fun _ _ => rfl) hfb, HH1.out, HH2.out])
      have hV : ∀ W, (binOp BinOp.quo 22 (.float .f64 na) (.float .f64 nb)).run Tryz.prog W = .ok (.float .f64 rr) W := fun W => run_float_arith W .quo 22 .f64 _ _ _ hfb
      clear HH1 HH2 ho hM hR hfb
      generalize tx op = T at *
      generalize a.t = at' at *
      generalize b.t = bt' at *
      generalize tx a.s = as' at *
      generalize tx b.s = bs' at *
      generalize a.b = ab' at *
      generalize b.b = bb' at *
      go_enter Tryz.func83, Tryz.ntmps83
      go_upto_region 1 with (fail)
      generalize (((w.alloc (.cells #[.int .i64 at', .float .f64 na, .string as', .bool ab'] 51)).alloc (.cells #[.int .i64 bt', .float .f64 nb, .string bs', .bool bb'] 51)).alloc (.cells #[.int .i64 0, .float .f64 0, .string ⟨#[]⟩, .bool false] 51)) = W0 at HBI ⊢
      obtain ⟨c0, c1, c2, c3⟩ := HBI.out.a.cells
      obtain ⟨d0, d1, d2, d3⟩ := HBI.out.b.cells
      go_wp2_with (first | (go_at_call 79; fail))
      go_at_call 79
      refine (HNM.out _ _).mono ?_
      rintro e w5 ⟨hb5, v5, rfl, hv5⟩
      obtain ⟨hz, n5, rfl, hz2, hend⟩ := BI.fin HBI.out HM.out hv5 hb5
      have HE := Lib.hid (And.intro hz2 hend)
      obtain ⟨k0, k1, k2, k3⟩ := hz.cells
      have f0 := hz.fr 0
      have f1 := hz.fr 1
      have f2 := hz.fr 2
      have f3 := hz.fr 3
      clear hz hz2 hend hb5 hv5
      go_wp2
      exact bodyPost_ret (val_res rfl _ _ (w.heap.size + 2) _ _ _ _ rfl HE.out.1) rfl HE.out.2
  · rw [takes_none ho] at hop; cases hop
end Go.Proofs.YtfalcmbjjlgoaaaGreatDoor
