/- Own texts, merged: ShelfB, S9, SA. -/
import Derived.Shelf.Small.Strs
import Derived.Shelf.Strings.Search1
import Derived.Shelf.Strings.Search2
import Derived.Shelf.Strings.Search3
import Derived.Shelf.LaysM
import Derived.Shelf.Strings.Shaped
import Derived.Test.YtmhfnpabgkkjaaaGreatProg
import Derived.Test.YtmhfnpabgkkjaaaGreatMP30
/-
  DERIVED: THE SHELF's CONTRACTS AT THIS DUMP, IN PLAIN WORDS (tools/lay-plain.mjs out of 'TryzShelf.lean', which tools/lay-shelf.mjs wrote): THE SAME DECLARATIONS UNDER THE SAME NAMES: 'import', 'namespace', 'open', 'def', 'theorem' AND NOTHING ELSE: no command of the shelf's: FOR A HAND-IN. Each laying: the table of numbers ('.._ren') and one theorem, a field a fact of the dump's own or the kernel's comparison; each contract: ONE APPLICATION.
-/
namespace Go.Proofs
open Go.Shelf
def Tryz.lays144_ren : Go.Shelf.Ren := ⟨fun | 144 => 66 | 143 => 86 | 219 => 101 | 217 => 79 | 225 => 116 | 224 => 117 | 267 => 118 | 266 => 91 | 314 => 131 | n => n, fun | 9 => 9 | 4 => 4 | 3 => 3 | 5 => 5 | 46 => 135 | 146 => 149 | 51 => 148 | n => n, fun | 1 => 1 | n => n⟩
theorem Tryz.lays144 : Go.Proofs.Lays.n144 Tryz.prog Tryz.lays144_ren := {
  mixed := by kernel_rfl
  f143 := Tryz.func86.trans (congrArg some (by kernel_rfl))
  f144 := Tryz.func66.trans (congrArg some (by kernel_rfl))
  f217 := Tryz.func79.trans (congrArg some (by kernel_rfl))
  f219 := Tryz.func101.trans (congrArg some (by kernel_rfl))
  f224 := Tryz.func117.trans (congrArg some (by kernel_rfl))
  f225 := Tryz.func116.trans (congrArg some (by kernel_rfl))
  f266 := Tryz.func91.trans (congrArg some (by kernel_rfl))
  f267 := Tryz.func118.trans (congrArg some (by kernel_rfl))
  f314 := Tryz.func131.trans (congrArg some (by kernel_rfl))
  t3 := Tryz.underlying3
  a3 := Tryz.isAgg3
  z3 := Tryz.sizeOf3
  v3 := Tryz.zeroValue3
  t4 := Tryz.underlying4
  a4 := Tryz.isAgg4
  z4 := Tryz.sizeOf4
  v4 := Tryz.zeroValue4
  t5 := Tryz.underlying5
  a5 := Tryz.isAgg5
  z5 := Tryz.sizeOf5
  v5 := Tryz.zeroValue5
  t9 := Tryz.underlying9
  a9 := Tryz.isAgg9
  z9 := Tryz.sizeOf9
  v9 := Tryz.zeroValue9
  t46 := Tryz.underlying135
  a46 := Tryz.isAgg135
  z46 := Tryz.sizeOf135
  v46 := Tryz.zeroValue135
  t51 := Tryz.underlying148
  a51 := Tryz.isAgg148
  z51 := Tryz.sizeOf148
  v51 := Tryz.zeroValue148
  t146 := Tryz.underlying149
  a146 := Tryz.isAgg149
  z146 := Tryz.sizeOf149
  v146 := Tryz.zeroValue149
  g1 := by kernel_rfl }
open Go.RowKit Go.Lib in
theorem Tryz.strings_Contains_one (s : ByteArray) (c : UInt8) (w : World) :
    Calls Tryz.prog 66 #[.string s, .string ⟨#[c]⟩] w fun e w' => e = .returned (.bool (decide (0 ≤ Lib.indexByte s.data.toList c))) ∧ w' = w := Any.strings_Contains_one Tryz.lays144 s c w
open Go.RowKit Go.Lib in
theorem Tryz.strings_Contains (s sub : ByteArray) (m : Int) (w : World) (hs : s.size < 4294967281) (hm : w.cell? ⟨1, 0, none⟩ = some (.int .i64 m)) :
    Calls Tryz.prog 66 #[.string s, .string sub] w fun e w' => e = .returned (.bool (Lib.contains s.data.toList sub.data.toList)) ∧ w' = w := Any.strings_Contains Tryz.lays144 s sub m w hs hm
end Go.Proofs
/- Walk: both, over the Ops told apart (printed by gen_s9.py). -/
namespace Go.Proofs.YtmhfnpabgkkjaaaGreat
open Go.RowKit Go.Shelf Ieee
attribute [local go_sem] run_store_float
/-- A variable that strings.Contains reads. -/
def MaxLn (m : Int) (w : World) : Prop := w.cell? ⟨1, 0, none⟩ = some (.int .i64 m)
theorem MaxLn.below {m : Int} {w w' : World} (h : MaxLn m w) (hb : Below w.heap.size w w') : MaxLn m w' := cell_same (hb.block _ (cell_lt h)) h
theorem MaxLn.drew {m : Int} {w : World} (h : MaxLn m w) : MaxLn m w.drew := h
/-- What both holds: its parts and its result's variable. -/
structure BI (w : World) (a0 a1 a2 a3 b0 b1 b2 b3 : Value) (m : Int) (W : World) : Prop where
  a : VB W w.heap.size a0 a1 a2 a3
  b : VB W (w.heap.size + 1) b0 b1 b2 b3
  r : VB W (w.heap.size + 2) (.int .i64 0) (.float .f64 0) (.string ⟨#[]⟩) (.bool false)
  bel : Below w.heap.size w W
  mx : MaxLn m W
theorem BI.start {w : World} {m : Int} (hm : MaxLn m w) (a0 a1 a2 a3 b0 b1 b2 b3 : Value) :
    BI w a0 a1 a2 a3 b0 b1 b2 b3 m (((w.alloc (.cells #[a0, a1, a2, a3] 40)).alloc (.cells #[b0, b1, b2, b3] 40)).alloc (.cells #[.int .i64 0, .float .f64 0, .string ⟨#[]⟩, .bool false] 40)) := by
  have h1 : VB (w.alloc (.cells #[a0, a1, a2, a3] 40)) w.heap.size a0 a1 a2 a3 := heap_alloc_new _ _
  have h2 : VB ((w.alloc (.cells #[a0, a1, a2, a3] 40)).alloc (.cells #[b0, b1, b2, b3] 40)) (w.heap.size + 1) b0 b1 b2 b3 := by
    have := heap_alloc_new (w.alloc (.cells #[a0, a1, a2, a3] 40)) (.cells #[b0, b1, b2, b3] 40)
    simpa [VB] using this
  have h3 : VB (((w.alloc (.cells #[a0, a1, a2, a3] 40)).alloc (.cells #[b0, b1, b2, b3] 40)).alloc (.cells #[.int .i64 0, .float .f64 0, .string ⟨#[]⟩, .bool false] 40)) (w.heap.size + 2) (.int .i64 0) (.float .f64 0) (.string ⟨#[]⟩) (.bool false) := by
    have := heap_alloc_new ((w.alloc (.cells #[a0, a1, a2, a3] 40)).alloc (.cells #[b0, b1, b2, b3] 40)) (.cells #[.int .i64 0, .float .f64 0, .string ⟨#[]⟩, .bool false] 40)
    simpa [VB] using this
  have k1 : ∀ (W : World) o, Below W.heap.size W (W.alloc o) := fun W o => (Below.refl _ _).alloc (Nat.le_refl _) _
  have hb : Below w.heap.size w (((w.alloc (.cells #[a0, a1, a2, a3] 40)).alloc (.cells #[b0, b1, b2, b3] 40)).alloc (.cells #[.int .i64 0, .float .f64 0, .string ⟨#[]⟩, .bool false] 40)) := (((Below.refl _ _).alloc (Nat.le_refl _) _).alloc (by simp) _).alloc (by simp; omega) _
  exact ⟨(h1.below (k1 _ _)).below (k1 _ _), h2.below (k1 _ _), h3, hb, hm.below hb⟩
theorem BI.below {w : World} {a0 a1 a2 a3 b0 b1 b2 b3 : Value} {m : Int} {W W' : World} (h : BI w a0 a1 a2 a3 b0 b1 b2 b3 m W) (hb : Below W.heap.size W W') : BI w a0 a1 a2 a3 b0 b1 b2 b3 m W' :=
  ⟨h.a.below hb, h.b.below hb, h.r.below hb, h.bel.trans (below_le hb h.bel.size), h.mx.below hb⟩
theorem BI.drew {w : World} {a0 a1 a2 a3 b0 b1 b2 b3 : Value} {m : Int} {W : World} (h : BI w a0 a1 a2 a3 b0 b1 b2 b3 m W) : BI w a0 a1 a2 a3 b0 b1 b2 b3 m W.drew := h.below (Below.refl _ _).drew
theorem BI.fin {w : World} {a0 a1 a2 a3 b0 b1 b2 b3 : Value} {m : Int} {W W' : World} (h : BI w a0 a1 a2 a3 b0 b1 b2 b3 m W) {A B : Av} (hAB : B = A) {v : Value} (hv : ValV v A) (hb : Below W.heap.size W W') :
    VB W' (w.heap.size + 2) (.int .i64 0) (.float .f64 0) (.string ⟨#[]⟩) (.bool false) ∧ ∃ n, v = .agg #[.int .i64 A.t, .float .f64 n, .string (tx A.s), .bool A.b] ∧
      VB (putN W' (w.heap.size + 2) (.int .i64 A.t) (.float .f64 n) (.string (tx A.s)) (.bool A.b)) (w.heap.size + 2) (.int .i64 A.t) (.float .f64 n) (.string (tx A.s)) (.bool A.b) ∧
      VEnd B w (.returned (.agg #[.int .i64 A.t, .float .f64 n, .string (tx A.s), .bool A.b])) (putN W' (w.heap.size + 2) (.int .i64 A.t) (.float .f64 n) (.string (tx A.s)) (.bool A.b)) := by
  obtain ⟨n, rfl, hn⟩ := hv
  have h2 := h.below hb
  subst hAB
  exact ⟨h2.r, n, rfl, h2.r.put, below_put h2.bel (by omega), _, rfl, n, rfl, hn⟩
set_option maxRecDepth 100000 in
set_option maxHeartbeats 16000000 in
theorem wboth (op : Bs) (hop : takesT op = some 2) (va vb : Value) (a b : Av) (m : Int) (hs : a.s.length ≤ 1000000) (w : World) (ha : ValV va a) (hb : ValV vb b) (hm : MaxLn m w) : Calls Tryz.prog 41 #[.string (tx op), va, vb] w (VEnd (twoA op a b) w) := by
  obtain ⟨na, rfl, h1⟩ := ha
  obtain ⟨nb, rfl, h2⟩ := hb
  have HBI := Lib.hid (BI.start hm (.int .i64 a.t) (.float .f64 na) (.string (tx a.s)) (.bool a.b) (.int .i64 b.t) (.float .f64 nb) (.string (tx b.s)) (.bool b.b))
  have HTR := Lib.hid (fun c W => wtruthV c W)
  have HNM := Lib.hid (fun c W => wnumV c W)
  have HEQ : Hid (∀ W, Calls Tryz.prog 67 #[.agg #[.int .i64 a.t, .float .f64 na, .string (tx a.s), .bool a.b], .agg #[.int .i64 b.t, .float .f64 nb, .string (tx b.s), .bool b.b]] W fun e w' => e = .returned (.bool (eqA a b)) ∧ Below W.heap.size W w') := Lib.hid (fun W => wequalV _ _ a b W ⟨na, rfl, h1⟩ ⟨nb, rfl, h2⟩)
  have HCT : Hid (∀ W, MaxLn m W → Calls Tryz.prog 66 #[.string (tx a.s), .string (tx b.s)] W fun e w' => e = .returned (.bool (Lib.contains a.s b.s)) ∧ w' = W) := Lib.hid (fun W hW => by
    have h := Tryz.strings_Contains (tx a.s) (tx b.s) m W (by rw [tx_size']; omega) hW
    have e1 : (tx a.s).data.toList = a.s := by simp [tx]
    have e2 : (tx b.s).data.toList = b.s := by simp [tx]
    rw [e1, e2] at h
    exact h)
  obtain ⟨R, hR⟩ : ∃ R, R = twoA op a b := ⟨_, rfl⟩
  rw [← hR]
  have HH1 := Lib.hid h1
  have HH2 := Lib.hid h2
  clear h1 h2 hm
  rcases opcases op with ⟨ho, b0, b1, b2, b3, b4, b5, b6, b7, b8, b9, b10, b11, b12, b13, b14, b15, b16, b17, b18, b19⟩ | ⟨ho, b0, b1, b2, b3, b4, b5, b6, b7, b8, b9, b10, b11, b12, b13, b14, b15, b16, b17, b18, b19⟩ | ⟨ho, b0, b1, b2, b3, b4, b5, b6, b7, b8, b9, b10, b11, b12, b13, b14, b15, b16, b17, b18, b19⟩ | ⟨ho, b0, b1, b2, b3, b4, b5, b6, b7, b8, b9, b10, b11, b12, b13, b14, b15, b16, b17, b18, b19⟩ | ⟨ho, b0, b1, b2, b3, b4, b5, b6, b7, b8, b9, b10, b11, b12, b13, b14, b15, b16, b17, b18, b19⟩ | ⟨ho, b0, b1, b2, b3, b4, b5, b6, b7, b8, b9, b10, b11, b12, b13, b14, b15, b16, b17, b18, b19⟩ | ⟨ho, b0, b1, b2, b3, b4, b5, b6, b7, b8, b9, b10, b11, b12, b13, b14, b15, b16, b17, b18, b19⟩ | ⟨ho, b0, b1, b2, b3, b4, b5, b6, b7, b8, b9, b10, b11, b12, b13, b14, b15, b16, b17, b18, b19⟩ | ⟨ho, b0, b1, b2, b3, b4, b5, b6, b7, b8, b9, b10, b11, b12, b13, b14, b15, b16, b17, b18, b19⟩ | ⟨ho, b0, b1, b2, b3, b4, b5, b6, b7, b8, b9, b10, b11, b12, b13, b14, b15, b16, b17, b18, b19⟩ | ⟨ho, b0, b1, b2, b3, b4, b5, b6, b7, b8, b9, b10, b11, b12, b13, b14, b15, b16, b17, b18, b19⟩ | ⟨ho, b0, b1, b2, b3, b4, b5, b6, b7, b8, b9, b10, b11, b12, b13, b14, b15, b16, b17, b18, b19⟩ | ⟨ho, b0, b1, b2, b3, b4, b5, b6, b7, b8, b9, b10, b11, b12, b13, b14, b15, b16, b17, b18, b19⟩ | ⟨ho, b0, b1, b2, b3, b4, b5, b6, b7, b8, b9, b10, b11, b12, b13, b14, b15, b16, b17, b18, b19⟩ | ⟨ho, b0, b1, b2, b3, b4, b5, b6, b7, b8, b9, b10, b11, b12, b13, b14, b15, b16, b17, b18, b19⟩ | ⟨ho, b0, b1, b2, b3, b4, b5, b6, b7, b8, b9, b10, b11, b12, b13, b14, b15, b16, b17, b18, b19⟩ | ⟨ho, b0, b1, b2, b3, b4, b5, b6, b7, b8, b9, b10, b11, b12, b13, b14, b15, b16, b17, b18, b19⟩ | ⟨ho, b0, b1, b2, b3, b4, b5, b6, b7, b8, b9, b10, b11, b12, b13, b14, b15, b16, b17, b18, b19⟩ | ⟨ho, b0, b1, b2, b3, b4, b5, b6, b7, b8, b9, b10, b11, b12, b13, b14, b15, b16, b17, b18, b19⟩ | ⟨ho, b0, b1, b2, b3, b4, b5, b6, b7, b8, b9, b10, b11, b12, b13, b14, b15, b16, b17, b18, b19⟩ | ⟨ho, b0, b1, b2, b3, b4, b5, b6, b7, b8, b9, b10, b11, b12, b13, b14, b15, b16, b17, b18, b19⟩
  · subst ho; exact absurd hop (by decide)
  · subst ho; exact absurd hop (by decide)
  · subst ho; exact absurd hop (by decide)
  · subst ho; exact absurd hop (by decide)
  · subst ho; exact absurd hop (by decide)
  · subst ho; exact absurd hop (by decide)
  · subst ho; exact absurd hop (by decide)
  · clear hop
    have hM : twoA op a b = avB (a.b || b.b) := by subst ho; unfold twoA; rw [if_pos (by decide)]
    rw [hM] at hR
    clear HCT HEQ HNM HH1 HH2 ho hM hs
    obtain ⟨AB, hAB⟩ : ∃ x, x = a.b := ⟨_, rfl⟩
    obtain ⟨BB, hBB⟩ : ∃ x, x = b.b := ⟨_, rfl⟩
    rw [← hAB, ← hBB] at hR
    rw [← hAB, ← hBB] at HBI
    rw [← hAB, ← hBB]
    clear hAB hBB
    cases AB
    · have HM : Hid (R = avB BB) := Lib.hid (by rw [hR]; rfl)
      clear hR
      generalize tx op = T at *
      generalize a.t = at' at *
      generalize b.t = bt' at *
      generalize tx a.s = as' at *
      generalize tx b.s = bs' at *
      go_enter Tryz.func41, Tryz.ntmps41
      go_upto_region 1 with (fail)
      generalize (((w.alloc (.cells #[.int .i64 at', .float .f64 na, .string as', .bool false] 40)).alloc (.cells #[.int .i64 bt', .float .f64 nb, .string bs', .bool BB] 40)).alloc (.cells #[.int .i64 0, .float .f64 0, .string ⟨#[]⟩, .bool false] 40)) = W0 at HBI ⊢
      obtain ⟨c0, c1, c2, c3⟩ := HBI.out.a.cells
      obtain ⟨d0, d1, d2, d3⟩ := HBI.out.b.cells
      go_wp2_with (first | (go_at_call 38; fail))
      go_at_call 38
      refine (HTR.out _ _).mono ?_
      rintro e w5 ⟨hb5, v5, rfl, hv5⟩
      obtain ⟨hz, n5, rfl, hz2, hend⟩ := BI.fin HBI.out HM.out hv5 hb5
      have HE := Lib.hid (And.intro hz2 hend)
      obtain ⟨k0, k1, k2, k3⟩ := hz.cells
      have f0 := hz.fr 0
      have f1 := hz.fr 1
      have f2 := hz.fr 2
      have f3 := hz.fr 3
      clear hz hz2 hend hb5 hv5
      go_wp2
      exact bodyPost_ret (val_res rfl _ _ (w.heap.size + 2) _ _ _ _ rfl HE.out.1) rfl HE.out.2
    · have HM : Hid (R = avB true) := Lib.hid (by rw [hR]; rfl)
      clear hR
      generalize tx op = T at *
      generalize a.t = at' at *
      generalize b.t = bt' at *
      generalize tx a.s = as' at *
      generalize tx b.s = bs' at *
      go_enter Tryz.func41, Tryz.ntmps41
      go_upto_region 1 with (fail)
      generalize (((w.alloc (.cells #[.int .i64 at', .float .f64 na, .string as', .bool true] 40)).alloc (.cells #[.int .i64 bt', .float .f64 nb, .string bs', .bool BB] 40)).alloc (.cells #[.int .i64 0, .float .f64 0, .string ⟨#[]⟩, .bool false] 40)) = W0 at HBI ⊢
      obtain ⟨c0, c1, c2, c3⟩ := HBI.out.a.cells
      obtain ⟨d0, d1, d2, d3⟩ := HBI.out.b.cells
      go_wp2_with (first | (go_at_call 38; fail))
      go_at_call 38
      refine (HTR.out _ _).mono ?_
      rintro e w5 ⟨hb5, v5, rfl, hv5⟩
      obtain ⟨hz, n5, rfl, hz2, hend⟩ := BI.fin HBI.out HM.out hv5 hb5
      have HE := Lib.hid (And.intro hz2 hend)
      obtain ⟨k0, k1, k2, k3⟩ := hz.cells
      have f0 := hz.fr 0
      have f1 := hz.fr 1
      have f2 := hz.fr 2
      have f3 := hz.fr 3
      clear hz hz2 hend hb5 hv5
      go_wp2
      exact bodyPost_ret (val_res rfl _ _ (w.heap.size + 2) _ _ _ _ rfl HE.out.1) rfl HE.out.2
  · clear hop
    have hM : twoA op a b = avB (a.b && b.b) := by subst ho; unfold twoA; rw [if_neg (by decide), if_pos (by decide)]
    rw [hM] at hR
    clear HCT HEQ HNM HH1 HH2 ho hM hs
    obtain ⟨AB, hAB⟩ : ∃ x, x = a.b := ⟨_, rfl⟩
    obtain ⟨BB, hBB⟩ : ∃ x, x = b.b := ⟨_, rfl⟩
    rw [← hAB, ← hBB] at hR
    rw [← hAB, ← hBB] at HBI
    rw [← hAB, ← hBB]
    clear hAB hBB
    cases AB
    · have HM : Hid (R = avB false) := Lib.hid (by rw [hR]; rfl)
      clear hR
      generalize tx op = T at *
      generalize a.t = at' at *
      generalize b.t = bt' at *
      generalize tx a.s = as' at *
      generalize tx b.s = bs' at *
      go_enter Tryz.func41, Tryz.ntmps41
      go_upto_region 1 with (fail)
      generalize (((w.alloc (.cells #[.int .i64 at', .float .f64 na, .string as', .bool false] 40)).alloc (.cells #[.int .i64 bt', .float .f64 nb, .string bs', .bool BB] 40)).alloc (.cells #[.int .i64 0, .float .f64 0, .string ⟨#[]⟩, .bool false] 40)) = W0 at HBI ⊢
      obtain ⟨c0, c1, c2, c3⟩ := HBI.out.a.cells
      obtain ⟨d0, d1, d2, d3⟩ := HBI.out.b.cells
      go_wp2_with (first | (go_at_call 38; fail))
      go_at_call 38
      refine (HTR.out _ _).mono ?_
      rintro e w5 ⟨hb5, v5, rfl, hv5⟩
      obtain ⟨hz, n5, rfl, hz2, hend⟩ := BI.fin HBI.out HM.out hv5 hb5
      have HE := Lib.hid (And.intro hz2 hend)
      obtain ⟨k0, k1, k2, k3⟩ := hz.cells
      have f0 := hz.fr 0
      have f1 := hz.fr 1
      have f2 := hz.fr 2
      have f3 := hz.fr 3
      clear hz hz2 hend hb5 hv5
      go_wp2
      exact bodyPost_ret (val_res rfl _ _ (w.heap.size + 2) _ _ _ _ rfl HE.out.1) rfl HE.out.2
    · have HM : Hid (R = avB BB) := Lib.hid (by rw [hR]; rfl)
      clear hR
      generalize tx op = T at *
      generalize a.t = at' at *
      generalize b.t = bt' at *
      generalize tx a.s = as' at *
      generalize tx b.s = bs' at *
      go_enter Tryz.func41, Tryz.ntmps41
      go_upto_region 1 with (fail)
      generalize (((w.alloc (.cells #[.int .i64 at', .float .f64 na, .string as', .bool true] 40)).alloc (.cells #[.int .i64 bt', .float .f64 nb, .string bs', .bool BB] 40)).alloc (.cells #[.int .i64 0, .float .f64 0, .string ⟨#[]⟩, .bool false] 40)) = W0 at HBI ⊢
      obtain ⟨c0, c1, c2, c3⟩ := HBI.out.a.cells
      obtain ⟨d0, d1, d2, d3⟩ := HBI.out.b.cells
      go_wp2_with (first | (go_at_call 38; fail))
      go_at_call 38
      refine (HTR.out _ _).mono ?_
      rintro e w5 ⟨hb5, v5, rfl, hv5⟩
      obtain ⟨hz, n5, rfl, hz2, hend⟩ := BI.fin HBI.out HM.out hv5 hb5
      have HE := Lib.hid (And.intro hz2 hend)
      obtain ⟨k0, k1, k2, k3⟩ := hz.cells
      have f0 := hz.fr 0
      have f1 := hz.fr 1
      have f2 := hz.fr 2
      have f3 := hz.fr 3
      clear hz hz2 hend hb5 hv5
      go_wp2
      exact bodyPost_ret (val_res rfl _ _ (w.heap.size + 2) _ _ _ _ rfl HE.out.1) rfl HE.out.2
  · clear hop
    have hM : twoA op a b = avB (Lib.contains a.s b.s) := by subst ho; unfold twoA; rw [if_neg (by decide), if_neg (by decide), if_pos (by decide)]
    have HM : Hid (R = avB (Lib.contains a.s b.s)) := Lib.hid (hR.trans hM)
    clear HEQ HNM HH1 HH2 ho hM hR hs
    generalize Lib.contains a.s b.s = CC at HM HCT
    generalize tx op = T at *
    generalize a.t = at' at *
    generalize b.t = bt' at *
    generalize tx a.s = as' at *
    generalize tx b.s = bs' at *
    generalize a.b = ab' at *
    generalize b.b = bb' at *
    go_enter Tryz.func41, Tryz.ntmps41
    go_upto_region 1 with (fail)
    generalize (((w.alloc (.cells #[.int .i64 at', .float .f64 na, .string as', .bool ab'] 40)).alloc (.cells #[.int .i64 bt', .float .f64 nb, .string bs', .bool bb'] 40)).alloc (.cells #[.int .i64 0, .float .f64 0, .string ⟨#[]⟩, .bool false] 40)) = W0 at HBI ⊢
    obtain ⟨c0, c1, c2, c3⟩ := HBI.out.a.cells
    obtain ⟨d0, d1, d2, d3⟩ := HBI.out.b.cells
    go_wp2_with (first | (go_at_call 66; refine (HCT.out _ HBI.out.mx).mono ?_; rintro e w4 ⟨rfl, rfl⟩) | (go_at_call 38; fail))
    go_at_call 38
    refine (HTR.out _ _).mono ?_
    rintro e w5 ⟨hb5, v5, rfl, hv5⟩
    obtain ⟨hz, n5, rfl, hz2, hend⟩ := BI.fin HBI.out HM.out hv5 hb5
    have HE := Lib.hid (And.intro hz2 hend)
    obtain ⟨k0, k1, k2, k3⟩ := hz.cells
    have f0 := hz.fr 0
    have f1 := hz.fr 1
    have f2 := hz.fr 2
    have f3 := hz.fr 3
    clear hz hz2 hend hb5 hv5
    go_wp2
    exact bodyPost_ret (val_res rfl _ _ (w.heap.size + 2) _ _ _ _ rfl HE.out.1) rfl HE.out.2
  · clear hop
    have hM : twoA op a b = avB (eqA a b) := by subst ho; unfold twoA; rw [if_neg (by decide), if_neg (by decide), if_neg (by decide), if_pos (by decide)]
    have HM : Hid (R = avB (eqA a b)) := Lib.hid (hR.trans hM)
    clear HCT HNM HH1 HH2 ho hM hR hs
    generalize eqA a b = CC at HM HEQ
    generalize tx op = T at *
    generalize a.t = at' at *
    generalize b.t = bt' at *
    generalize tx a.s = as' at *
    generalize tx b.s = bs' at *
    generalize a.b = ab' at *
    generalize b.b = bb' at *
    go_enter Tryz.func41, Tryz.ntmps41
    go_upto_region 1 with (fail)
    generalize (((w.alloc (.cells #[.int .i64 at', .float .f64 na, .string as', .bool ab'] 40)).alloc (.cells #[.int .i64 bt', .float .f64 nb, .string bs', .bool bb'] 40)).alloc (.cells #[.int .i64 0, .float .f64 0, .string ⟨#[]⟩, .bool false] 40)) = W0 at HBI ⊢
    obtain ⟨c0, c1, c2, c3⟩ := HBI.out.a.cells
    obtain ⟨d0, d1, d2, d3⟩ := HBI.out.b.cells
    go_wp2_with (first | (go_at_call 67; fail))
    refine (HEQ.out _).mono ?_
    rintro e w4 ⟨rfl, hb4⟩
    have HB4 := Lib.hid (HBI.out.below hb4)
    clear hb4
    go_wp2_with (first | (go_at_call 38; fail))
    go_at_call 38
    refine (HTR.out _ _).mono ?_
    rintro e w5 ⟨hb5, v5, rfl, hv5⟩
    obtain ⟨hz, n5, rfl, hz2, hend⟩ := BI.fin HB4.out HM.out hv5 hb5
    have HE := Lib.hid (And.intro hz2 hend)
    obtain ⟨k0, k1, k2, k3⟩ := hz.cells
    have f0 := hz.fr 0
    have f1 := hz.fr 1
    have f2 := hz.fr 2
    have f3 := hz.fr 3
    clear hz hz2 hend hb5 hv5
    go_wp2
    exact bodyPost_ret (val_res rfl _ _ (w.heap.size + 2) _ _ _ _ rfl HE.out.1) rfl HE.out.2
  · clear hop
    have hM : twoA op a b = avB (!eqA a b) := by subst ho; unfold twoA; rw [if_neg (by decide), if_neg (by decide), if_neg (by decide), if_neg (by decide), if_pos (by decide)]
    have HM : Hid (R = avB (!eqA a b)) := Lib.hid (hR.trans hM)
    clear HCT HNM HH1 HH2 ho hM hR hs
    generalize eqA a b = CC at HM HEQ
    generalize tx op = T at *
    generalize a.t = at' at *
    generalize b.t = bt' at *
    generalize tx a.s = as' at *
    generalize tx b.s = bs' at *
    generalize a.b = ab' at *
    generalize b.b = bb' at *
    go_enter Tryz.func41, Tryz.ntmps41
    go_upto_region 1 with (fail)
    generalize (((w.alloc (.cells #[.int .i64 at', .float .f64 na, .string as', .bool ab'] 40)).alloc (.cells #[.int .i64 bt', .float .f64 nb, .string bs', .bool bb'] 40)).alloc (.cells #[.int .i64 0, .float .f64 0, .string ⟨#[]⟩, .bool false] 40)) = W0 at HBI ⊢
    obtain ⟨c0, c1, c2, c3⟩ := HBI.out.a.cells
    obtain ⟨d0, d1, d2, d3⟩ := HBI.out.b.cells
    go_wp2_with (first | (go_at_call 67; fail))
    refine (HEQ.out _).mono ?_
    rintro e w4 ⟨rfl, hb4⟩
    have HB4 := Lib.hid (HBI.out.below hb4)
    clear hb4
    go_wp2_with (first | (go_at_call 38; fail))
    go_at_call 38
    refine (HTR.out _ _).mono ?_
    rintro e w5 ⟨hb5, v5, rfl, hv5⟩
    obtain ⟨hz, n5, rfl, hz2, hend⟩ := BI.fin HB4.out HM.out hv5 hb5
    have HE := Lib.hid (And.intro hz2 hend)
    obtain ⟨k0, k1, k2, k3⟩ := hz.cells
    have f0 := hz.fr 0
    have f1 := hz.fr 1
    have f2 := hz.fr 2
    have f3 := hz.fr 3
    clear hz hz2 hend hb5 hv5
    go_wp2
    exact bodyPost_ret (val_res rfl _ _ (w.heap.size + 2) _ _ _ _ rfl HE.out.1) rfl HE.out.2
  · clear hop
    have hM : twoA op a b = avB (cmpA isLt a.n b.n) := by subst ho; unfold twoA; rw [if_neg (by decide), if_neg (by decide), if_neg (by decide), if_neg (by decide), if_neg (by decide), if_pos (by decide)]
    have HM : Hid (R = avB (FloatKind.f64.format.order na nb == some .lt)) := Lib.hid (by rw [hR, hM, isLt_order, HH1.out, HH2.out])
    clear HCT HEQ HNM HH1 HH2 ho hM hR hs
    generalize tx op = T at *
    generalize a.t = at' at *
    generalize b.t = bt' at *
    generalize tx a.s = as' at *
    generalize tx b.s = bs' at *
    generalize a.b = ab' at *
    generalize b.b = bb' at *
    go_enter Tryz.func41, Tryz.ntmps41
    go_upto_region 1 with (fail)
    generalize (((w.alloc (.cells #[.int .i64 at', .float .f64 na, .string as', .bool ab'] 40)).alloc (.cells #[.int .i64 bt', .float .f64 nb, .string bs', .bool bb'] 40)).alloc (.cells #[.int .i64 0, .float .f64 0, .string ⟨#[]⟩, .bool false] 40)) = W0 at HBI ⊢
    obtain ⟨c0, c1, c2, c3⟩ := HBI.out.a.cells
    obtain ⟨d0, d1, d2, d3⟩ := HBI.out.b.cells
    go_wp2_with (first | (go_at_call 38; fail))
    go_at_call 38
    refine (HTR.out _ _).mono ?_
    rintro e w5 ⟨hb5, v5, rfl, hv5⟩
    obtain ⟨hz, n5, rfl, hz2, hend⟩ := BI.fin HBI.out HM.out hv5 hb5
    have HE := Lib.hid (And.intro hz2 hend)
    obtain ⟨k0, k1, k2, k3⟩ := hz.cells
    have f0 := hz.fr 0
    have f1 := hz.fr 1
    have f2 := hz.fr 2
    have f3 := hz.fr 3
    clear hz hz2 hend hb5 hv5
    go_wp2
    exact bodyPost_ret (val_res rfl _ _ (w.heap.size + 2) _ _ _ _ rfl HE.out.1) rfl HE.out.2
  · clear hop
    have hM : twoA op a b = avB (cmpA isLe a.n b.n) := by subst ho; unfold twoA; rw [if_neg (by decide), if_neg (by decide), if_neg (by decide), if_neg (by decide), if_neg (by decide), if_neg (by decide), if_pos (by decide)]
    have HM : Hid (R = avB (FloatKind.f64.format.order na nb == some .lt || FloatKind.f64.format.order na nb == some .eq)) := Lib.hid (by rw [hR, hM, isLe_order, HH1.out, HH2.out])
    clear HCT HEQ HNM HH1 HH2 ho hM hR hs
    generalize tx op = T at *
    generalize a.t = at' at *
    generalize b.t = bt' at *
    generalize tx a.s = as' at *
    generalize tx b.s = bs' at *
    generalize a.b = ab' at *
    generalize b.b = bb' at *
    go_enter Tryz.func41, Tryz.ntmps41
    go_upto_region 1 with (fail)
    generalize (((w.alloc (.cells #[.int .i64 at', .float .f64 na, .string as', .bool ab'] 40)).alloc (.cells #[.int .i64 bt', .float .f64 nb, .string bs', .bool bb'] 40)).alloc (.cells #[.int .i64 0, .float .f64 0, .string ⟨#[]⟩, .bool false] 40)) = W0 at HBI ⊢
    obtain ⟨c0, c1, c2, c3⟩ := HBI.out.a.cells
    obtain ⟨d0, d1, d2, d3⟩ := HBI.out.b.cells
    go_wp2_with (first | (go_at_call 38; fail))
    go_at_call 38
    refine (HTR.out _ _).mono ?_
    rintro e w5 ⟨hb5, v5, rfl, hv5⟩
    obtain ⟨hz, n5, rfl, hz2, hend⟩ := BI.fin HBI.out HM.out hv5 hb5
    have HE := Lib.hid (And.intro hz2 hend)
    obtain ⟨k0, k1, k2, k3⟩ := hz.cells
    have f0 := hz.fr 0
    have f1 := hz.fr 1
    have f2 := hz.fr 2
    have f3 := hz.fr 3
    clear hz hz2 hend hb5 hv5
    go_wp2
    exact bodyPost_ret (val_res rfl _ _ (w.heap.size + 2) _ _ _ _ rfl HE.out.1) rfl HE.out.2
  · clear hop
    have hM : twoA op a b = avB (cmpA isGt a.n b.n) := by subst ho; unfold twoA; rw [if_neg (by decide), if_neg (by decide), if_neg (by decide), if_neg (by decide), if_neg (by decide), if_neg (by decide), if_neg (by decide), if_pos (by decide)]
    have HM : Hid (R = avB (FloatKind.f64.format.order na nb == some .gt)) := Lib.hid (by rw [hR, hM, isGt_order, HH1.out, HH2.out])
    clear HCT HEQ HNM HH1 HH2 ho hM hR hs
    generalize tx op = T at *
    generalize a.t = at' at *
    generalize b.t = bt' at *
    generalize tx a.s = as' at *
    generalize tx b.s = bs' at *
    generalize a.b = ab' at *
    generalize b.b = bb' at *
    go_enter Tryz.func41, Tryz.ntmps41
    go_upto_region 1 with (fail)
    generalize (((w.alloc (.cells #[.int .i64 at', .float .f64 na, .string as', .bool ab'] 40)).alloc (.cells #[.int .i64 bt', .float .f64 nb, .string bs', .bool bb'] 40)).alloc (.cells #[.int .i64 0, .float .f64 0, .string ⟨#[]⟩, .bool false] 40)) = W0 at HBI ⊢
    obtain ⟨c0, c1, c2, c3⟩ := HBI.out.a.cells
    obtain ⟨d0, d1, d2, d3⟩ := HBI.out.b.cells
    go_wp2_with (first | (go_at_call 38; fail))
    go_at_call 38
    refine (HTR.out _ _).mono ?_
    rintro e w5 ⟨hb5, v5, rfl, hv5⟩
    obtain ⟨hz, n5, rfl, hz2, hend⟩ := BI.fin HBI.out HM.out hv5 hb5
    have HE := Lib.hid (And.intro hz2 hend)
    obtain ⟨k0, k1, k2, k3⟩ := hz.cells
    have f0 := hz.fr 0
    have f1 := hz.fr 1
    have f2 := hz.fr 2
    have f3 := hz.fr 3
    clear hz hz2 hend hb5 hv5
    go_wp2
    exact bodyPost_ret (val_res rfl _ _ (w.heap.size + 2) _ _ _ _ rfl HE.out.1) rfl HE.out.2
  · clear hop
    have hM : twoA op a b = avB (cmpA isGe a.n b.n) := by subst ho; unfold twoA; rw [if_neg (by decide), if_neg (by decide), if_neg (by decide), if_neg (by decide), if_neg (by decide), if_neg (by decide), if_neg (by decide), if_neg (by decide), if_pos (by decide)]
    have HM : Hid (R = avB (FloatKind.f64.format.order na nb == some .gt || FloatKind.f64.format.order na nb == some .eq)) := Lib.hid (by rw [hR, hM, isGe_order, HH1.out, HH2.out])
    clear HCT HEQ HNM HH1 HH2 ho hM hR hs
    generalize tx op = T at *
    generalize a.t = at' at *
    generalize b.t = bt' at *
    generalize tx a.s = as' at *
    generalize tx b.s = bs' at *
    generalize a.b = ab' at *
    generalize b.b = bb' at *
    go_enter Tryz.func41, Tryz.ntmps41
    go_upto_region 1 with (fail)
    generalize (((w.alloc (.cells #[.int .i64 at', .float .f64 na, .string as', .bool ab'] 40)).alloc (.cells #[.int .i64 bt', .float .f64 nb, .string bs', .bool bb'] 40)).alloc (.cells #[.int .i64 0, .float .f64 0, .string ⟨#[]⟩, .bool false] 40)) = W0 at HBI ⊢
    obtain ⟨c0, c1, c2, c3⟩ := HBI.out.a.cells
    obtain ⟨d0, d1, d2, d3⟩ := HBI.out.b.cells
    go_wp2_with (first | (go_at_call 38; fail))
    go_at_call 38
    refine (HTR.out _ _).mono ?_
    rintro e w5 ⟨hb5, v5, rfl, hv5⟩
    obtain ⟨hz, n5, rfl, hz2, hend⟩ := BI.fin HBI.out HM.out hv5 hb5
    have HE := Lib.hid (And.intro hz2 hend)
    obtain ⟨k0, k1, k2, k3⟩ := hz.cells
    have f0 := hz.fr 0
    have f1 := hz.fr 1
    have f2 := hz.fr 2
    have f3 := hz.fr 3
    clear hz hz2 hend hb5 hv5
    go_wp2
    exact bodyPost_ret (val_res rfl _ _ (w.heap.size + 2) _ _ _ _ rfl HE.out.1) rfl HE.out.2
  · clear hop
    have hM : twoA op a b = avN (arA double.add a.n b.n) := by subst ho; unfold twoA; rw [if_neg (by decide), if_neg (by decide), if_neg (by decide), if_neg (by decide), if_neg (by decide), if_neg (by decide), if_neg (by decide), if_neg (by decide), if_neg (by decide), if_pos (by decide)]
    clear HCT HEQ HTR hs
    cases hfb : floatBits .add .f64 na nb with
    | none =>
      have HM : Hid (∀ W, R = avN (fA (nanB na nb W))) := Lib.hid (fun W => by rw [hR, hM, arA_none (op := .add) (f := double.add) (fun _ _ => rfl) W hfb, HH1.out, HH2.out])
      have hV : ∀ W, (binOp BinOp.add 23 (.float .f64 na) (.float .f64 nb)).run Tryz.prog W = .ok (.float .f64 (nanB na nb W)) W.drew := fun W => run_float_nan Tryz.prog W .add (.inl rfl) 23 na nb hfb
      clear HH1 HH2 ho hM hR hfb
      generalize tx op = T at *
      generalize a.t = at' at *
      generalize b.t = bt' at *
      generalize tx a.s = as' at *
      generalize tx b.s = bs' at *
      generalize a.b = ab' at *
      generalize b.b = bb' at *
      go_enter Tryz.func41, Tryz.ntmps41
      go_upto_region 1 with (fail)
      generalize (((w.alloc (.cells #[.int .i64 at', .float .f64 na, .string as', .bool ab'] 40)).alloc (.cells #[.int .i64 bt', .float .f64 nb, .string bs', .bool bb'] 40)).alloc (.cells #[.int .i64 0, .float .f64 0, .string ⟨#[]⟩, .bool false] 40)) = W0 at HBI ⊢
      obtain ⟨c0, c1, c2, c3⟩ := HBI.out.a.cells
      obtain ⟨d0, d1, d2, d3⟩ := HBI.out.b.cells
      have HM := Lib.hid (HM.out W0)
      have HB4 := Lib.hid HBI.out.drew
      go_wp2_with (first | (go_at_call 36; fail))
      go_at_call 36
      refine (HNM.out _ _).mono ?_
      rintro e w5 ⟨hb5, v5, rfl, hv5⟩
      obtain ⟨hz, n5, rfl, hz2, hend⟩ := BI.fin HB4.out HM.out hv5 hb5
      have HE := Lib.hid (And.intro hz2 hend)
      obtain ⟨k0, k1, k2, k3⟩ := hz.cells
      have f0 := hz.fr 0
      have f1 := hz.fr 1
      have f2 := hz.fr 2
      have f3 := hz.fr 3
      clear hz hz2 hend hb5 hv5
      go_wp2
      exact bodyPost_ret (val_res rfl _ _ (w.heap.size + 2) _ _ _ _ rfl HE.out.1) rfl HE.out.2
    | some rr =>
      have HM : Hid (R = avN (fA rr)) := Lib.hid (by rw [hR, hM, arA_some (op := .add) (f := double.add) (fun _ _ => rfl) hfb, HH1.out, HH2.out])
      have hV : ∀ W, (binOp BinOp.add 23 (.float .f64 na) (.float .f64 nb)).run Tryz.prog W = .ok (.float .f64 rr) W := fun W => run_float_arith W .add 23 .f64 _ _ _ hfb
      clear HH1 HH2 ho hM hR hfb
      generalize tx op = T at *
      generalize a.t = at' at *
      generalize b.t = bt' at *
      generalize tx a.s = as' at *
      generalize tx b.s = bs' at *
      generalize a.b = ab' at *
      generalize b.b = bb' at *
      go_enter Tryz.func41, Tryz.ntmps41
      go_upto_region 1 with (fail)
      generalize (((w.alloc (.cells #[.int .i64 at', .float .f64 na, .string as', .bool ab'] 40)).alloc (.cells #[.int .i64 bt', .float .f64 nb, .string bs', .bool bb'] 40)).alloc (.cells #[.int .i64 0, .float .f64 0, .string ⟨#[]⟩, .bool false] 40)) = W0 at HBI ⊢
      obtain ⟨c0, c1, c2, c3⟩ := HBI.out.a.cells
      obtain ⟨d0, d1, d2, d3⟩ := HBI.out.b.cells
      go_wp2_with (first | (go_at_call 36; fail))
      go_at_call 36
      refine (HNM.out _ _).mono ?_
      rintro e w5 ⟨hb5, v5, rfl, hv5⟩
      obtain ⟨hz, n5, rfl, hz2, hend⟩ := BI.fin HBI.out HM.out hv5 hb5
      have HE := Lib.hid (And.intro hz2 hend)
      obtain ⟨k0, k1, k2, k3⟩ := hz.cells
      have f0 := hz.fr 0
      have f1 := hz.fr 1
      have f2 := hz.fr 2
      have f3 := hz.fr 3
      clear hz hz2 hend hb5 hv5
      go_wp2
      exact bodyPost_ret (val_res rfl _ _ (w.heap.size + 2) _ _ _ _ rfl HE.out.1) rfl HE.out.2
  · clear hop
    have hM : twoA op a b = avN (arA double.sub a.n b.n) := by subst ho; unfold twoA; rw [if_neg (by decide), if_neg (by decide), if_neg (by decide), if_neg (by decide), if_neg (by decide), if_neg (by decide), if_neg (by decide), if_neg (by decide), if_neg (by decide), if_neg (by decide), if_pos (by decide)]
    clear HCT HEQ HTR hs
    cases hfb : floatBits .sub .f64 na nb with
    | none =>
      have HM : Hid (∀ W, R = avN (fA (nanB na nb W))) := Lib.hid (fun W => by rw [hR, hM, arA_none (op := .sub) (f := double.sub) (fun _ _ => rfl) W hfb, HH1.out, HH2.out])
      have hV : ∀ W, (binOp BinOp.sub 23 (.float .f64 na) (.float .f64 nb)).run Tryz.prog W = .ok (.float .f64 (nanB na nb W)) W.drew := fun W => run_float_nan Tryz.prog W .sub (.inr (.inl rfl)) 23 na nb hfb
      clear HH1 HH2 ho hM hR hfb
      generalize tx op = T at *
      generalize a.t = at' at *
      generalize b.t = bt' at *
      generalize tx a.s = as' at *
      generalize tx b.s = bs' at *
      generalize a.b = ab' at *
      generalize b.b = bb' at *
      go_enter Tryz.func41, Tryz.ntmps41
      go_upto_region 1 with (fail)
      generalize (((w.alloc (.cells #[.int .i64 at', .float .f64 na, .string as', .bool ab'] 40)).alloc (.cells #[.int .i64 bt', .float .f64 nb, .string bs', .bool bb'] 40)).alloc (.cells #[.int .i64 0, .float .f64 0, .string ⟨#[]⟩, .bool false] 40)) = W0 at HBI ⊢
      obtain ⟨c0, c1, c2, c3⟩ := HBI.out.a.cells
      obtain ⟨d0, d1, d2, d3⟩ := HBI.out.b.cells
      have HM := Lib.hid (HM.out W0)
      have HB4 := Lib.hid HBI.out.drew
      go_wp2_with (first | (go_at_call 36; fail))
      go_at_call 36
      refine (HNM.out _ _).mono ?_
      rintro e w5 ⟨hb5, v5, rfl, hv5⟩
      obtain ⟨hz, n5, rfl, hz2, hend⟩ := BI.fin HB4.out HM.out hv5 hb5
      have HE := Lib.hid (And.intro hz2 hend)
      obtain ⟨k0, k1, k2, k3⟩ := hz.cells
      have f0 := hz.fr 0
      have f1 := hz.fr 1
      have f2 := hz.fr 2
      have f3 := hz.fr 3
      clear hz hz2 hend hb5 hv5
      go_wp2
      exact bodyPost_ret (val_res rfl _ _ (w.heap.size + 2) _ _ _ _ rfl HE.out.1) rfl HE.out.2
    | some rr =>
      have HM : Hid (R = avN (fA rr)) := Lib.hid (by rw [hR, hM, arA_some (op := .sub) (f := double.sub) (fun _ _ => rfl) hfb, HH1.out, HH2.out])
      have hV : ∀ W, (binOp BinOp.sub 23 (.float .f64 na) (.float .f64 nb)).run Tryz.prog W = .ok (.float .f64 rr) W := fun W => run_float_arith W .sub 23 .f64 _ _ _ hfb
      clear HH1 HH2 ho hM hR hfb
      generalize tx op = T at *
      generalize a.t = at' at *
      generalize b.t = bt' at *
      generalize tx a.s = as' at *
      generalize tx b.s = bs' at *
      generalize a.b = ab' at *
      generalize b.b = bb' at *
      go_enter Tryz.func41, Tryz.ntmps41
      go_upto_region 1 with (fail)
      generalize (((w.alloc (.cells #[.int .i64 at', .float .f64 na, .string as', .bool ab'] 40)).alloc (.cells #[.int .i64 bt', .float .f64 nb, .string bs', .bool bb'] 40)).alloc (.cells #[.int .i64 0, .float .f64 0, .string ⟨#[]⟩, .bool false] 40)) = W0 at HBI ⊢
      obtain ⟨c0, c1, c2, c3⟩ := HBI.out.a.cells
      obtain ⟨d0, d1, d2, d3⟩ := HBI.out.b.cells
      go_wp2_with (first | (go_at_call 36; fail))
      go_at_call 36
      refine (HNM.out _ _).mono ?_
      rintro e w5 ⟨hb5, v5, rfl, hv5⟩
      obtain ⟨hz, n5, rfl, hz2, hend⟩ := BI.fin HBI.out HM.out hv5 hb5
      have HE := Lib.hid (And.intro hz2 hend)
      obtain ⟨k0, k1, k2, k3⟩ := hz.cells
      have f0 := hz.fr 0
      have f1 := hz.fr 1
      have f2 := hz.fr 2
      have f3 := hz.fr 3
      clear hz hz2 hend hb5 hv5
      go_wp2
      exact bodyPost_ret (val_res rfl _ _ (w.heap.size + 2) _ _ _ _ rfl HE.out.1) rfl HE.out.2
  · clear hop
    have hM : twoA op a b = avN (arA double.mul a.n b.n) := by subst ho; unfold twoA; rw [if_neg (by decide), if_neg (by decide), if_neg (by decide), if_neg (by decide), if_neg (by decide), if_neg (by decide), if_neg (by decide), if_neg (by decide), if_neg (by decide), if_neg (by decide), if_neg (by decide), if_pos (by decide)]
    clear HCT HEQ HTR hs
    cases hfb : floatBits .mul .f64 na nb with
    | none =>
      have HM : Hid (∀ W, R = avN (fA (nanB na nb W))) := Lib.hid (fun W => by rw [hR, hM, arA_none (op := .mul) (f := double.mul) (fun _ _ => rfl) W hfb, HH1.out, HH2.out])
      have hV : ∀ W, (binOp BinOp.mul 23 (.float .f64 na) (.float .f64 nb)).run Tryz.prog W = .ok (.float .f64 (nanB na nb W)) W.drew := fun W => run_float_nan Tryz.prog W .mul (.inr (.inr (.inl rfl))) 23 na nb hfb
      clear HH1 HH2 ho hM hR hfb
      generalize tx op = T at *
      generalize a.t = at' at *
      generalize b.t = bt' at *
      generalize tx a.s = as' at *
      generalize tx b.s = bs' at *
      generalize a.b = ab' at *
      generalize b.b = bb' at *
      go_enter Tryz.func41, Tryz.ntmps41
      go_upto_region 1 with (fail)
      generalize (((w.alloc (.cells #[.int .i64 at', .float .f64 na, .string as', .bool ab'] 40)).alloc (.cells #[.int .i64 bt', .float .f64 nb, .string bs', .bool bb'] 40)).alloc (.cells #[.int .i64 0, .float .f64 0, .string ⟨#[]⟩, .bool false] 40)) = W0 at HBI ⊢
      obtain ⟨c0, c1, c2, c3⟩ := HBI.out.a.cells
      obtain ⟨d0, d1, d2, d3⟩ := HBI.out.b.cells
      have HM := Lib.hid (HM.out W0)
      have HB4 := Lib.hid HBI.out.drew
      go_wp2_with (first | (go_at_call 36; fail))
      go_at_call 36
      refine (HNM.out _ _).mono ?_
      rintro e w5 ⟨hb5, v5, rfl, hv5⟩
      obtain ⟨hz, n5, rfl, hz2, hend⟩ := BI.fin HB4.out HM.out hv5 hb5
      have HE := Lib.hid (And.intro hz2 hend)
      obtain ⟨k0, k1, k2, k3⟩ := hz.cells
      have f0 := hz.fr 0
      have f1 := hz.fr 1
      have f2 := hz.fr 2
      have f3 := hz.fr 3
      clear hz hz2 hend hb5 hv5
      go_wp2
      exact bodyPost_ret (val_res rfl _ _ (w.heap.size + 2) _ _ _ _ rfl HE.out.1) rfl HE.out.2
    | some rr =>
      have HM : Hid (R = avN (fA rr)) := Lib.hid (by rw [hR, hM, arA_some (op := .mul) (f := double.mul) (fun _ _ => rfl) hfb, HH1.out, HH2.out])
      have hV : ∀ W, (binOp BinOp.mul 23 (.float .f64 na) (.float .f64 nb)).run Tryz.prog W = .ok (.float .f64 rr) W := fun W => run_float_arith W .mul 23 .f64 _ _ _ hfb
      clear HH1 HH2 ho hM hR hfb
      generalize tx op = T at *
      generalize a.t = at' at *
      generalize b.t = bt' at *
      generalize tx a.s = as' at *
      generalize tx b.s = bs' at *
      generalize a.b = ab' at *
      generalize b.b = bb' at *
      go_enter Tryz.func41, Tryz.ntmps41
      go_upto_region 1 with (fail)
      generalize (((w.alloc (.cells #[.int .i64 at', .float .f64 na, .string as', .bool ab'] 40)).alloc (.cells #[.int .i64 bt', .float .f64 nb, .string bs', .bool bb'] 40)).alloc (.cells #[.int .i64 0, .float .f64 0, .string ⟨#[]⟩, .bool false] 40)) = W0 at HBI ⊢
      obtain ⟨c0, c1, c2, c3⟩ := HBI.out.a.cells
      obtain ⟨d0, d1, d2, d3⟩ := HBI.out.b.cells
      go_wp2_with (first | (go_at_call 36; fail))
      go_at_call 36
      refine (HNM.out _ _).mono ?_
      rintro e w5 ⟨hb5, v5, rfl, hv5⟩
      obtain ⟨hz, n5, rfl, hz2, hend⟩ := BI.fin HBI.out HM.out hv5 hb5
      have HE := Lib.hid (And.intro hz2 hend)
      obtain ⟨k0, k1, k2, k3⟩ := hz.cells
      have f0 := hz.fr 0
      have f1 := hz.fr 1
      have f2 := hz.fr 2
      have f3 := hz.fr 3
      clear hz hz2 hend hb5 hv5
      go_wp2
      exact bodyPost_ret (val_res rfl _ _ (w.heap.size + 2) _ _ _ _ rfl HE.out.1) rfl HE.out.2
  · clear hop
    have hM : twoA op a b = avN (arA double.div a.n b.n) := by subst ho; unfold twoA; rw [if_neg (by decide), if_neg (by decide), if_neg (by decide), if_neg (by decide), if_neg (by decide), if_neg (by decide), if_neg (by decide), if_neg (by decide), if_neg (by decide), if_neg (by decide), if_neg (by decide), if_neg (by decide)]
    clear HCT HEQ HTR hs
    cases hfb : floatBits .quo .f64 na nb with
    | none =>
      have HM : Hid (∀ W, R = avN (fA (nanB na nb W))) := Lib.hid (fun W => by rw [hR, hM, arA_none (op := .quo) (f := double.div) (fun _ _ => rfl) W hfb, HH1.out, HH2.out])
      have hV : ∀ W, (binOp BinOp.quo 23 (.float .f64 na) (.float .f64 nb)).run Tryz.prog W = .ok (.float .f64 (nanB na nb W)) W.drew := fun W => run_float_nan Tryz.prog W .quo (.inr (.inr (.inr rfl))) 23 na nb hfb
      clear HH1 HH2 ho hM hR hfb
      generalize tx op = T at *
      generalize a.t = at' at *
      generalize b.t = bt' at *
      generalize tx a.s = as' at *
      generalize tx b.s = bs' at *
      generalize a.b = ab' at *
      generalize b.b = bb' at *
      go_enter Tryz.func41, Tryz.ntmps41
      go_upto_region 1 with (fail)
      generalize (((w.alloc (.cells #[.int .i64 at', .float .f64 na, .string as', .bool ab'] 40)).alloc (.cells #[.int .i64 bt', .float .f64 nb, .string bs', .bool bb'] 40)).alloc (.cells #[.int .i64 0, .float .f64 0, .string ⟨#[]⟩, .bool false] 40)) = W0 at HBI ⊢
      obtain ⟨c0, c1, c2, c3⟩ := HBI.out.a.cells
      obtain ⟨d0, d1, d2, d3⟩ := HBI.out.b.cells
      have HM := Lib.hid (HM.out W0)
      have HB4 := Lib.hid HBI.out.drew
      go_wp2_with (first | (go_at_call 36; fail))
      go_at_call 36
      refine (HNM.out _ _).mono ?_
      rintro e w5 ⟨hb5, v5, rfl, hv5⟩
      obtain ⟨hz, n5, rfl, hz2, hend⟩ := BI.fin HB4.out HM.out hv5 hb5
      have HE := Lib.hid (And.intro hz2 hend)
      obtain ⟨k0, k1, k2, k3⟩ := hz.cells
      have f0 := hz.fr 0
      have f1 := hz.fr 1
      have f2 := hz.fr 2
      have f3 := hz.fr 3
      clear hz hz2 hend hb5 hv5
      go_wp2
      exact bodyPost_ret (val_res rfl _ _ (w.heap.size + 2) _ _ _ _ rfl HE.out.1) rfl HE.out.2
    | some rr =>
      have HM : Hid (R = avN (fA rr)) := Lib.hid (by rw [hR, hM, arA_some (op := .quo) (f := double.div) (fun _ _ => rfl) hfb, HH1.out, HH2.out])
      have hV : ∀ W, (binOp BinOp.quo 23 (.float .f64 na) (.float .f64 nb)).run Tryz.prog W = .ok (.float .f64 rr) W := fun W => run_float_arith W .quo 23 .f64 _ _ _ hfb
      clear HH1 HH2 ho hM hR hfb
      generalize tx op = T at *
      generalize a.t = at' at *
      generalize b.t = bt' at *
      generalize tx a.s = as' at *
      generalize tx b.s = bs' at *
      generalize a.b = ab' at *
      generalize b.b = bb' at *
      go_enter Tryz.func41, Tryz.ntmps41
      go_upto_region 1 with (fail)
      generalize (((w.alloc (.cells #[.int .i64 at', .float .f64 na, .string as', .bool ab'] 40)).alloc (.cells #[.int .i64 bt', .float .f64 nb, .string bs', .bool bb'] 40)).alloc (.cells #[.int .i64 0, .float .f64 0, .string ⟨#[]⟩, .bool false] 40)) = W0 at HBI ⊢
      obtain ⟨c0, c1, c2, c3⟩ := HBI.out.a.cells
      obtain ⟨d0, d1, d2, d3⟩ := HBI.out.b.cells
      go_wp2_with (first | (go_at_call 36; fail))
      go_at_call 36
      refine (HNM.out _ _).mono ?_
      rintro e w5 ⟨hb5, v5, rfl, hv5⟩
      obtain ⟨hz, n5, rfl, hz2, hend⟩ := BI.fin HBI.out HM.out hv5 hb5
      have HE := Lib.hid (And.intro hz2 hend)
      obtain ⟨k0, k1, k2, k3⟩ := hz.cells
      have f0 := hz.fr 0
      have f1 := hz.fr 1
      have f2 := hz.fr 2
      have f3 := hz.fr 3
      clear hz hz2 hend hb5 hv5
      go_wp2
      exact bodyPost_ret (val_res rfl _ _ (w.heap.size + 2) _ _ _ _ rfl HE.out.1) rfl HE.out.2
  · rw [takes_none ho] at hop; cases hop
end Go.Proofs.YtmhfnpabgkkjaaaGreat
/- Walks: TypeOf, Abs; what a tree that has a type is like. -/
namespace Go.Proofs.YtmhfnpabgkkjaaaGreat
open Go.RowKit Go.Shelf Ieee
attribute [local go_sem] run_store_float
/-- A tree's type where it isn't too deep. -/
def tyP (L : List Bnd) (t : Tree) : Nat × Nat := if 16 < depT t then (0, 190) else tyT L t
set_option maxRecDepth 100000 in
set_option maxHeartbeats 4000000 in
theorem wtypeOf (L : List Bnd) (hLL : L.length ≤ 1000000) (vb : Value) (t : Tree) (A : Nat → Prop) (v : Value) (w : World) (hz : szT t ≤ 1000000) (hv : NodeV A w v t) (hb : BndV w vb L) :
    Calls Tryz.prog 19 #[v, vb] w fun e w' => e = .returned (.tuple #[.int .i64 ((tyP L t).1 : Nat), .int .i64 ((tyP L t).2 : Nat)]) ∧ Below w.heap.size w w' := by
  have HDP := Lib.hid (fun W (h : NodeV A W v t) => wdepth _ t (Nat.le_refl _) A v W hz h)
  have HTY := Lib.hid (fun W (h : NodeV A W v t) (k : BndV W vb L) => wtyped L hLL vb _ t (Nat.le_refl _) A v W hz h k)
  have HDD : Hid (depT t ≤ 1000000) := Lib.hid (by have := dep_sz t; omega)
  have HV := Lib.hid hv
  have HBV := Lib.hid hb
  obtain ⟨o, n, s, x, l, c, rfl⟩ := hv.agg
  obtain ⟨bx, bn, bc, rfl⟩ := hb.agg
  obtain ⟨R, hR⟩ : ∃ R, R = tyP L t := ⟨_, rfl⟩
  rw [← hR]
  unfold tyP at hR
  obtain ⟨T, hT⟩ : ∃ T, T = tyT L t := ⟨_, rfl⟩
  rw [← hT] at hR HTY
  obtain ⟨D, hD⟩ : ∃ D, D = depT t := ⟨_, rfl⟩
  rw [← hD] at hR HDP HDD
  have HR := Lib.hid hR
  have hdd := HDD.out
  have HB0 := Lib.hid (bel1 w (.cells #[.string o, .float .f64 n, .string s, .slice x l c] 26))
  have HNB : Hid (NB (w.alloc (.cells #[.string o, .float .f64 n, .string s, .slice x l c] 26)) w.heap.size (.agg #[.string o, .float .f64 n, .string s, .slice x l c])) := Lib.hid ⟨_, _, _, _, rfl, heap_alloc_new _ _⟩
  clear hv hb hz hR hT hD
  go_enter Tryz.func19, Tryz.ntmps19
  go_wp2_with (first | (go_at_call 9; fail))
  generalize w.alloc (.cells #[.string o, .float .f64 n, .string s, .slice x l c] 26) = W0 at HB0 HNB ⊢
  go_at_call 9
  refine (HDP.out _ (HV.out.below HB0.out)).mono ?_
  rintro e w2 ⟨rfl, hb2⟩
  have HB2 := Lib.hid (HB0.out.trans (below_le hb2 HB0.out.size))
  obtain ⟨p0, p1, p2, p3, _⟩ := (HNB.out.below hb2).cells
  have hlt := (HNB.out.below hb2).lt
  clear hb2 HB0 HNB HDP
  by_cases q : 16 < D
  · have HR2 : Hid (R = (0, 190)) := Lib.hid (by rw [HR.out, if_pos q])
    go_wp2
    go_ret2
    exact ⟨by rw [HR2.out]; rfl, HB2.out⟩
  · have HR2 : Hid (R = T) := Lib.hid (by rw [HR.out, if_neg q])
    obtain ⟨T1, T2⟩ := T
    go_wp2_with (first | (go_at_call 28; fail))
    go_at_call 28
    refine (HTY.out _ (HV.out.below HB2.out) (HBV.out.below HB2.out)).mono ?_
    rintro e w3 ⟨rfl, hb3⟩
    have HB3 := Lib.hid (HB2.out.trans (below_le hb3 HB2.out.size))
    clear hb3
    go_wp2
    go_ret2
    exact ⟨by rw [HR2.out]; rfl, HB3.out⟩
theorem call_bits (x : Nat) (w : World) : (callFunc 64 #[.float .f64 x]).run Tryz.prog w = .ok (.value (.int .u64 x)) w := by
  rw [run_callFunc_extern (P := Tryz.prog) (f := 64) (fn := Tryz.f64) (e := Extern.MathFloatBits.float64bits) (by kernel_rfl) (by kernel_rfl) (by kernel_rfl) (by kernel_rfl) (by kernel_rfl)]
  rfl
theorem call_float (x : Nat) (w : World) : (callFunc 63 #[.int .u64 (x : Int)]).run Tryz.prog w = .ok (.value (.float .f64 x)) w := by
  rw [run_callFunc_extern (P := Tryz.prog) (f := 63) (fn := Tryz.f63) (e := Extern.MathFloatBits.float64frombits) (by kernel_rfl) (by kernel_rfl) (by kernel_rfl) (by kernel_rfl) (by kernel_rfl)]
  rfl
theorem u64_andNot_top (x : Nat) : bits .andNot .u64 (x : Int) 9223372036854775808 = ((x % 2 ^ 63 : Nat) : Int) := by
  have e0 : bits .andNot .u64 (x : Int) 9223372036854775808 = IntKind.u64.wrap ((BitVec.ofInt 64 (x : Int) &&& ~~~BitVec.ofInt 64 9223372036854775808).toNat : Int) := rfl
  have e1 : ~~~BitVec.ofInt 64 9223372036854775808 = BitVec.ofNat 64 (2 ^ 63 - 1) := by decide
  have e2 : x % 2 ^ 64 % 2 ^ 63 = x % 2 ^ 63 := by omega
  have e3 : x % 2 ^ 63 < 2 ^ 63 := Nat.mod_lt _ (by decide)
  rw [e0, e1, BitVec.ofInt_natCast, BitVec.toNat_and, BitVec.toNat_ofNat, BitVec.toNat_ofNat, Nat.mod_eq_of_lt (show 2 ^ 63 - 1 < 2 ^ 64 by decide), Nat.and_two_pow_sub_one_eq_mod, e2, IntKind.wrap_u64]
  omega
set_option maxHeartbeats 1000000 in
theorem wabsF (x : Nat) (w : World) : Calls Tryz.prog 39 #[.float .f64 x] w fun e w' => e = .returned (.float .f64 (x % 2 ^ 63)) ∧ w = w' := by
  have hb := call_bits
  have hf := call_float (x % 2 ^ 63)
  have ha := u64_andNot_top x
  obtain ⟨y, hy⟩ : ∃ y, y = x % 2 ^ 63 := ⟨_, rfl⟩
  rw [← hy] at hf ha ⊢
  clear hy
  go_enter Tryz.func39, Tryz.ntmps39
  go_wp2
  go_ret
  exact ⟨rfl, rfl⟩
/-- What a tree that has a type is like. -/
theorem ty_ok {L : List Bnd} {op s : Bs} {fn : Nat} {c : List Tree} (h : (tyT L (.mk op fn s c)).2 = 0) : takesT op = some c.length ∧ (∀ i (hi : i < c.length), (tyT L c[i]).2 = 0) ∧ (op = wname → ∃ v, boundV L s = some v) := by
  rw [tyT] at h
  by_cases q : (tyL L c).2 = 0
  · rw [if_neg (by rw [q]; decide)] at h
    have hg := tyL_all L c q
    by_cases q2 : takesT op = some c.length
    · refine ⟨q2, hg, fun hn => ?_⟩
      rw [if_neg (by rw [q2]; exact fun e => e rfl)] at h
      subst hn
      rw [if_neg (by decide), if_neg (by decide), if_pos rfl] at h
      cases hb : boundV L s with
      | none => rw [hb] at h; cases h
      | some v => exact ⟨v, rfl⟩
    · rw [if_pos q2] at h
      cases h
  · rw [if_pos q] at h
    exact absurd h q
mutual
/-- No text in a tree is longer. -/
def txT (k : Nat) : Tree → Prop
  | .mk _ _ s l => s.length ≤ k ∧ txL k l
def txL (k : Nat) : List Tree → Prop
  | [] => True
  | t :: r => txT k t ∧ txL k r
end
theorem txL_get {k : Nat} : ∀ {l : List Tree}, txL k l → ∀ i (h : i < l.length), txT k l[i]
  | [], _, i, h => by cases h
  | t :: r, hl, 0, _ => hl.1
  | t :: r, hl, i + 1, h => txL_get hl.2 i (by simpa using h)
theorem bound_len {L : List Bnd} {s : Bs} {v : Vl} {k : Nat} (hL : ∀ b ∈ L, b.v.s.length ≤ k) (h : boundV L s = some v) : v.s.length ≤ k := by
  have key : ∀ (L : List Bnd) b, (∀ b ∈ L, b.v.s.length ≤ k) → firstB s L = some b → b.v.s.length ≤ k := fun L => by
    induction L with
    | nil => intro b _ h; cases h
    | cons a r ih =>
      intro b hk h
      unfold firstB at h
      split at h
      · cases h; exact hk _ (by simp)
      · exact ih b (fun b hb => hk b (by simp [hb])) h
  unfold boundV at h
  split at h
  · cases h
  · rename_i b hb
    have := key L b hL hb
    unfold plainV at h
    split at h
    · cases h; simp
    · split at h
      · cases h; exact this
      · split at h
        · cases h; simp
        · cases h
theorem one_s (C : Bs → Nat) (op : Bs) (a : Av) : (oneA C op a).s = [] := by
  unfold oneA
  repeat' (first | rfl | split)
theorem ite_s (c : Prop) [Decidable c] (x y : Av) (hx : x.s = []) (hy : y.s = []) : (if c then x else y).s = [] := by
  split
  · exact hx
  · exact hy
theorem two_s (op : Bs) (a b : Av) : (twoA op a b).s = [] := by
  unfold twoA
  iterate 12 refine ite_s _ _ _ rfl ?_
  rfl
theorem ev_len (C : Bs → Nat) {L : List Bnd} {k : Nat} (hL : ∀ b ∈ L, b.v.s.length ≤ k) {t : Tree} (ht : txT k t) : (evT C L t).s.length ≤ k := by
  obtain ⟨op, n, s, c⟩ := t
  have h1 : s.length ≤ k := ht.1
  have hN : ∀ x, (avN x).s.length ≤ k := fun b => Nat.zero_le k
  rw [evT]
  split
  · exact hN _
  · split
    · exact h1
    · split
      · split
        · rename_i v hv; exact bound_len hL hv
        · exact Nat.zero_le k
      · split
        · rw [one_s]; exact Nat.zero_le k
        · rw [two_s]; exact Nat.zero_le k
        · exact Nat.zero_le k
end Go.Proofs.YtmhfnpabgkkjaaaGreat
