/- Own texts, merged: S4, S5, S6, S7, RK. -/
import Derived.Laws.FloatArith
import Derived.Test.YtfalcmbjjlgoaaaGreatDoorH0
import Derived.Test.YtfalcmbjjlgoaaaGreatDoorS1
import Derived.Test.YtfalcmbjjlgoaaaGreatDoorMB37
import Derived.Test.YtfalcmbjjlgoaaaGreatDoorMB39
/- Numbers up to which NaN they are: what the operations give, and what a NaN drawn from the tape is. -/
namespace Go.Proofs.YtfalcmbjjlgoaaaGreatDoor
open Go.RowKit Ieee
/-- The NaN that the tape gives. -/
def nanB (x y : Nat) (W : World) : Nat := (Question.nanBits .f64 x y).cut (W.tape W.drawn (.nanBits .f64 x y))
theorem nanB_nan (x y : Nat) (W : World) : isNan (nanB x y W) = true := by
  have key : ∀ t, isNan ((t % 2) * 2 ^ 63 + 0x7ff0000000000000 + 1 + (t / 2) % (2 ^ 52 - 1)) = true := fun t => by
    have e1 : (2 : Nat) ^ 63 = 9223372036854775808 := by decide
    have e2 : (2 : Nat) ^ 52 = 4503599627370496 := by decide
    unfold isNan rung
    rw [e1, e2]
    have h2 : (t / 2) % (4503599627370496 - 1) < 4503599627370495 := Nat.mod_lt _ (by decide)
    generalize (t / 2) % (4503599627370496 - 1) = q at h2 ⊢
    have h1 : t % 2 < 2 := Nat.mod_lt _ (by decide)
    generalize t % 2 = p at h1 ⊢
    exact decide_eq_true (by omega)
  exact key _
theorem run_float_nan (P : Program) (w : World) (op : BinOp) (hop : op = .add ∨ op = .sub ∨ op = .mul ∨ op = .quo) (t : TypeId) (x y : Nat) (h : floatBits op .f64 x y = none) : (binOp op t (.float .f64 x) (.float .f64 y)).run P w = .ok (.float .f64 (nanB x y w)) w.drew := by
  unfold floatBits at h
  rcases hop with rfl | rfl | rfl | rfl <;> simp only at h
  all_goals simp [binOp, Op.floatArith, h, choose, nanB]; rfl
theorem nan_write {d : Option Datum} {r : Nat} (h : d.map double.write = some r) (hd : ∀ s f, d ≠ some (.nan s f)) : isNan r = false := by
  cases d with
  | none => cases h
  | some d =>
    cases h
    cases d with
    | nan s f => exact absurd rfl (hd s f)
    | infinity s => exact nan_inf s
    | number s m i => exact nan_nearest s m i
theorem sum_nan (a b : Datum) (s : Bool) (f : Nat) : a.sum b ≠ some (.nan s f) := by
  cases a <;> cases b <;> simp [Datum.sum]
theorem product_nan (a b : Datum) (s : Bool) (f : Nat) : a.product b ≠ some (.nan s f) := by
  cases a <;> cases b <;> simp [Datum.product] <;> split <;> simp
theorem quotient_nan (k : Nat) (a b : Datum) (s : Bool) (f : Nat) : a.quotient k b ≠ some (.nan s f) := by
  cases a <;> cases b <;> simp [Datum.quotient]
  split
  · split <;> simp
  · simp
theorem bits_num {op : BinOp} {x y r : Nat} (h : floatBits op .f64 x y = some r) : isNan r = false := by
  unfold floatBits at h
  split at h
  · exact nan_write h (sum_nan _ _)
  · exact nan_write h (sum_nan _ _)
  · exact nan_write h (product_nan _ _)
  · exact nan_write h (quotient_nan _ _ _)
  · cases h
theorem nan_read {x : Nat} (h : isNan x = true) : ∃ s f, double.read x = .nan s f := by
  obtain ⟨f, hf⟩ := read_nan x (by simpa [isNan] using h)
  exact ⟨_, f, hf⟩
theorem bits_nan (op : BinOp) (x y : Nat) (h : isNan x = true ∨ isNan y = true) : floatBits op .f64 x y = none := by
  have k1 : ∀ d, (Datum.nan true 0).sum d = none := fun d => by cases d <;> rfl
  have hx : ∀ s f d, (Datum.nan s f).sum d = none ∧ (Datum.nan s f).product d = none ∧ ∀ k, (Datum.nan s f).quotient k d = none := fun s f d => by cases d <;> exact ⟨rfl, rfl, fun _ => rfl⟩
  have hy : ∀ s f d, (d : Datum).sum (Datum.nan s f) = none ∧ d.product (Datum.nan s f) = none ∧ ∀ k, d.quotient k (Datum.nan s f) = none := fun s f d => by cases d <;> exact ⟨rfl, rfl, fun _ => rfl⟩
  have hd : FloatKind.f64.format = double := rfl
  unfold floatBits
  rw [hd]
  rcases h with h | h
  · obtain ⟨s, f, hr⟩ := nan_read h
    cases op <;> simp only [Format.add, Format.sub, Format.mul, Format.div, hr] <;> first | rfl | (rw [(hx s f _).1]; rfl) | (rw [(hx s f _).2.1]; rfl) | (rw [(hx s f _).2.2]; rfl)
  · obtain ⟨s, f, hr⟩ := nan_read h
    cases op <;> simp only [Format.add, Format.sub, Format.mul, Format.div, hr, Datum.opposite] <;> first | rfl | (rw [(hy _ _ _).1]; rfl) | (rw [(hy _ _ _).2.1]; rfl) | (rw [(hy _ _ _).2.2]; rfl)
theorem fA_num {x : Nat} (h : isNan x = false) : fA x = some x := by unfold fA; rw [h]; rfl
theorem fA_nan {x : Nat} (h : isNan x = true) : fA x = none := by unfold fA; rw [h]; rfl
/-- What an operation gives, up to which NaN: its bits, or the tape's NaN. -/
theorem arA_bits (op : BinOp) (f : Nat → Nat → Option Nat) (hf : ∀ x y, floatBits op .f64 x y = f x y) (x y : Nat) : arA f (fA x) (fA y) = floatBits op .f64 x y := by
  cases hx : isNan x
  · cases hy : isNan y
    · rw [fA_num hx, fA_num hy, hf]; rfl
    · rw [fA_nan hy, bits_nan op x y (.inr hy)]
      cases fA x <;> rfl
  · rw [fA_nan hx, bits_nan op x y (.inl hx)]; rfl
theorem arA_some {op : BinOp} {f : Nat → Nat → Option Nat} (hf : ∀ x y, floatBits op .f64 x y = f x y) {x y r : Nat} (h : floatBits op .f64 x y = some r) : fA r = arA f (fA x) (fA y) := by
  rw [arA_bits op f hf, h, fA_num (bits_num h)]
theorem arA_none {op : BinOp} {f : Nat → Nat → Option Nat} (hf : ∀ x y, floatBits op .f64 x y = f x y) {x y : Nat} (W : World) (h : floatBits op .f64 x y = none) : fA (nanB x y W) = arA f (fA x) (fA y) := by
  rw [arA_bits op f hf, h, fA_nan (nanB_nan x y W)]
/-- A comparison, up to which NaN. -/
theorem cmpA_order (p : Ordering → Bool) (x y : Nat) : cmpA p (fA x) (fA y) = match double.order x y with | some c => p c | none => false := by
  cases hx : isNan x
  · cases hy : isNan y
    · rw [fA_num hx, fA_num hy]; rfl
    · rw [fA_nan hy, order_nan x y (.inr hy)]
      cases fA x <;> rfl
  · rw [fA_nan hx, order_nan x y (.inl hx)]; rfl
theorem rung_neg (x : Nat) : rung (x ^^^ 2 ^ 63) = rung x := by
  unfold rung
  apply Nat.eq_of_testBit_eq
  intro i
  simp only [Nat.testBit_mod_two_pow, Nat.testBit_xor, Nat.testBit_two_pow]
  by_cases h : i < 63
  · have : ¬ 63 = i := by omega
    simp [h, this]
  · simp [h]
theorem negA_neg (x : Nat) : fA (x ^^^ 2 ^ 63) = negA (fA x) := by
  have h : isNan (x ^^^ 2 ^ 63) = isNan x := by unfold isNan; rw [rung_neg]
  unfold fA
  rw [h]
  split <;> rfl
theorem absA_abs (x : Nat) : fA (x % 2 ^ 63) = absA (fA x) := by
  have h : isNan (x % 2 ^ 63) = isNan x := by unfold isNan rung; rw [Nat.mod_mod]
  unfold fA
  rw [h]
  split <;> rfl
end Go.Proofs.YtfalcmbjjlgoaaaGreatDoor
/- Values in memory; walks: num, truth, equal, Abs. -/
namespace Go.Proofs.YtfalcmbjjlgoaaaGreatDoor
open Go.RowKit Go.Shelf Ieee
attribute [local go_sem] run_store_float
/-- A value as a Go value. -/
def ValV (v : Value) (a : Av) : Prop := ∃ n, v = .agg #[.int .i64 a.t, .float .f64 n, .string (tx a.s), .bool a.b] ∧ fA n = a.n
/-- What a call that gives a value ends in. -/
def VEnd (a : Av) (w : World) (e : Ending) (w' : World) : Prop := Below w.heap.size w w' ∧ ∃ v, e = .returned v ∧ ValV v a
theorem val_res {fn : Func} {p : Tmp} (h : fn.results = #[.cell p 51]) (tmps : Array Value) (w : World) (g : Nat) (v0 v1 v2 v3 : Value) (hp : tmps.getD p undef = .pointer (some ⟨g, 0, none⟩))
    (hg : w.heap[g]? = some (.cells #[v0, v1, v2, v3] 51 (0, 0))) : (results fn tmps).run Tryz.prog w = .ok (.agg #[v0, v1, v2, v3]) w :=
  results_cell h tmps w g 51 _ _ _ hp hg Tryz.underlying51 rfl (by kernel_rfl)
theorem fA_zero : fA 0 = some 0 := by decide
set_option maxHeartbeats 1000000 in
theorem wnumV (n : Nat) (w : World) : Calls Tryz.prog 79 #[.float .f64 n] w (VEnd (avN (fA n)) w) := by
  go_enter Tryz.func79, Tryz.ntmps79
  go_wp2
  refine bodyPost_ret (val_res rfl _ _ w.heap.size _ _ _ _ rfl (heap_alloc_new _ _)) rfl ?_
  exact ⟨(Below.refl _ _).alloc (Nat.le_refl _) _, _, rfl, n, rfl, rfl⟩
set_option maxHeartbeats 1000000 in
theorem wtruthV (b : Bool) (w : World) : Calls Tryz.prog 80 #[.bool b] w (VEnd (avB b) w) := by
  go_enter Tryz.func80, Tryz.ntmps80
  go_wp2
  refine bodyPost_ret (val_res rfl _ _ w.heap.size _ _ _ _ rfl (heap_alloc_new _ _)) rfl ?_
  exact ⟨(Below.refl _ _).alloc (Nat.le_refl _) _, _, rfl, 0, rfl, fA_zero⟩
theorem isEq_order (x y : Nat) : (FloatKind.f64.format.order x y == some .eq) = cmpA isEq (fA x) (fA y) := by
  rw [cmpA_order]
  show (double.order x y == some .eq) = _
  cases double.order x y with
  | none => rfl
  | some c => cases c <;> rfl
theorem isLt_order (x y : Nat) : (FloatKind.f64.format.order x y == some .lt) = cmpA isLt (fA x) (fA y) := by
  rw [cmpA_order]
  show (double.order x y == some .lt) = _
  cases double.order x y with
  | none => rfl
  | some c => cases c <;> rfl
theorem isGt_order (x y : Nat) : (FloatKind.f64.format.order x y == some .gt) = cmpA isGt (fA x) (fA y) := by
  rw [cmpA_order]
  show (double.order x y == some .gt) = _
  cases double.order x y with
  | none => rfl
  | some c => cases c <;> rfl
theorem isLe_order (x y : Nat) : (FloatKind.f64.format.order x y == some .lt || FloatKind.f64.format.order x y == some .eq) = cmpA isLe (fA x) (fA y) := by
  rw [cmpA_order]
  show (double.order x y == some .lt || double.order x y == some .eq) = _
  cases double.order x y with
  | none => rfl
  | some c => cases c <;> rfl
theorem isGe_order (x y : Nat) : (FloatKind.f64.format.order x y == some .gt || FloatKind.f64.format.order x y == some .eq) = cmpA isGe (fA x) (fA y) := by
  rw [cmpA_order]
  show (double.order x y == some .gt || double.order x y == some .eq) = _
  cases double.order x y with
  | none => rfl
  | some c => cases c <;> rfl
set_option maxHeartbeats 4000000 in
theorem wequalV (va vb : Value) (a b : Av) (w : World) (ha : ValV va a) (hb : ValV vb b) : Calls Tryz.prog 99 #[va, vb] w fun e w' => e = .returned (.bool (eqA a b)) ∧ Below w.heap.size w w' := by
  obtain ⟨na, rfl, h1⟩ := ha
  obtain ⟨nb, rfl, h2⟩ := hb
  have hal : ∀ o1 o2, Below w.heap.size w ((w.alloc o1).alloc o2) := fun o1 o2 => ((Below.refl _ _).alloc (Nat.le_refl _) _).alloc (by simp) _
  have HAL := Lib.hid hal
  by_cases q1 : a.t = 1
  · have HE : Hid ((FloatKind.f64.format.order na nb == some .eq) = eqA a b) := Lib.hid (by unfold eqA; rw [if_pos q1, isEq_order, h1, h2])
    rw [q1]
    generalize b.t = tb
    clear h1 h2 hal q1
    go_enter Tryz.func99, Tryz.ntmps99
    go_wp2
    go_ret
    exact ⟨ret_bool HE.out, HAL.out _ _⟩
  · by_cases q2 : a.t = 2
    · have HE : Hid (((tx a.s).toList == (tx b.s).toList) = eqA a b) := Lib.hid (by unfold eqA; rw [if_neg q1, if_pos q2, tx_toList, tx_toList]; by_cases e : a.s = b.s <;> simp [e])
      rw [q2]
      generalize b.t = tb
      clear h1 h2 hal q1 q2
      go_enter Tryz.func99, Tryz.ntmps99
      go_wp2
      go_ret
      exact ⟨ret_bool HE.out, HAL.out _ _⟩
    · have HE : Hid ((a.b == b.b) = eqA a b) := Lib.hid (by unfold eqA; rw [if_neg q1, if_neg q2])
      have i1 : ((a.t : Int) == 1) = false := by simp; omega
      have i2 : ((a.t : Int) == 2) = false := by simp; omega
      generalize a.t = ta at q1 q2 i1 i2 ⊢
      generalize b.t = tb
      clear h1 h2 hal
      go_enter Tryz.func99, Tryz.ntmps99
      go_wp2
      go_ret
      exact ⟨ret_bool HE.out, HAL.out _ _⟩
end Go.Proofs.YtfalcmbjjlgoaaaGreatDoor
/- Walks: made (over the Ops told apart), bound (printed by gen_s6.py). -/
namespace Go.Proofs.YtfalcmbjjlgoaaaGreatDoor
open Go.RowKit Go.Shelf
attribute [local go_sem] run_store_float
theorem TyV.agg {w : World} {v : Value} {L : List Nat} (h : TyV w v L) : ∃ x n c, v = .slice x n c := by
  obtain ⟨x, cap, rfl, _⟩ := h; exact ⟨_, _, _, rfl⟩
set_option maxRecDepth 100000 in
set_option maxHeartbeats 8000000 in
theorem wmade (op : Bs) (v : Value) (L : List Nat) (hL : L.length ≤ 1000000) (h2 : op = weq ∨ op = wne → L.length = 2) (w : World) (h : TyV w v L) : Calls Tryz.prog 46 #[.string (tx op), v] w fun e w' => e = .returned (.int .i64 (madeT op L : Nat)) ∧ Below w.heap.size w w' := by
  have HA1 : Hid (Calls Tryz.prog 64 #[v, .int .i64 1] w fun e w' => e = .returned (.bool (allT 1 L)) ∧ w = w') := Lib.hid (wallT v L 1 hL w h)
  have HA2 : Hid (Calls Tryz.prog 64 #[v, .int .i64 2] w fun e w' => e = .returned (.bool (allT 2 L)) ∧ w = w') := Lib.hid (wallT v L 2 hL w h)
  have HA3 : Hid (Calls Tryz.prog 64 #[v, .int .i64 3] w fun e w' => e = .returned (.bool (allT 3 L)) ∧ w = w') := Lib.hid (wallT v L 3 hL w h)
  have HG1 : Hid (∀ c W, Calls Tryz.prog 63 #[.int .i64 1, .bool c] W fun e w' => e = .returned (.int .i64 (giv 1 c : Nat)) ∧ W = w') := Lib.hid (fun c W => wgiven 1 c W)
  have HG3 : Hid (∀ c W, Calls Tryz.prog 63 #[.int .i64 3, .bool c] W fun e w' => e = .returned (.int .i64 (giv 3 c : Nat)) ∧ W = w') := Lib.hid (fun c W => wgiven 3 c W)
  have HV := Lib.hid h
  have HH2 := Lib.hid h2
  obtain ⟨x, n, cp, rfl⟩ := h.agg
  clear h h2 hL
  rcases opcases op with ⟨ho, b0, b1, b2, b3, b4, b5, b6, b7, b8, b9, b10, b11, b12, b13, b14, b15, b16, b17, b18, b19⟩ | ⟨ho, b0, b1, b2, b3, b4, b5, b6, b7, b8, b9, b10, b11, b12, b13, b14, b15, b16, b17, b18, b19⟩ | ⟨ho, b0, b1, b2, b3, b4, b5, b6, b7, b8, b9, b10, b11, b12, b13, b14, b15, b16, b17, b18, b19⟩ | ⟨ho, b0, b1, b2, b3, b4, b5, b6, b7, b8, b9, b10, b11, b12, b13, b14, b15, b16, b17, b18, b19⟩ | ⟨ho, b0, b1, b2, b3, b4, b5, b6, b7, b8, b9, b10, b11, b12, b13, b14, b15, b16, b17, b18, b19⟩ | ⟨ho, b0, b1, b2, b3, b4, b5, b6, b7, b8, b9, b10, b11, b12, b13, b14, b15, b16, b17, b18, b19⟩ | ⟨ho, b0, b1, b2, b3, b4, b5, b6, b7, b8, b9, b10, b11, b12, b13, b14, b15, b16, b17, b18, b19⟩ | ⟨ho, b0, b1, b2, b3, b4, b5, b6, b7, b8, b9, b10, b11, b12, b13, b14, b15, b16, b17, b18, b19⟩ | ⟨ho, b0, b1, b2, b3, b4, b5, b6, b7, b8, b9, b10, b11, b12, b13, b14, b15, b16, b17, b18, b19⟩ | ⟨ho, b0, b1, b2, b3, b4, b5, b6, b7, b8, b9, b10, b11, b12, b13, b14, b15, b16, b17, b18, b19⟩ | ⟨ho, b0, b1, b2, b3, b4, b5, b6, b7, b8, b9, b10, b11, b12, b13, b14, b15, b16, b17, b18, b19⟩ | ⟨ho, b0, b1, b2, b3, b4, b5, b6, b7, b8, b9, b10, b11, b12, b13, b14, b15, b16, b17, b18, b19⟩ | ⟨ho, b0, b1, b2, b3, b4, b5, b6, b7, b8, b9, b10, b11, b12, b13, b14, b15, b16, b17, b18, b19⟩ | ⟨ho, b0, b1, b2, b3, b4, b5, b6, b7, b8, b9, b10, b11, b12, b13, b14, b15, b16, b17, b18, b19⟩ | ⟨ho, b0, b1, b2, b3, b4, b5, b6, b7, b8, b9, b10, b11, b12, b13, b14, b15, b16, b17, b18, b19⟩ | ⟨ho, b0, b1, b2, b3, b4, b5, b6, b7, b8, b9, b10, b11, b12, b13, b14, b15, b16, b17, b18, b19⟩ | ⟨ho, b0, b1, b2, b3, b4, b5, b6, b7, b8, b9, b10, b11, b12, b13, b14, b15, b16, b17, b18, b19⟩ | ⟨ho, b0, b1, b2, b3, b4, b5, b6, b7, b8, b9, b10, b11, b12, b13, b14, b15, b16, b17, b18, b19⟩ | ⟨ho, b0, b1, b2, b3, b4, b5, b6, b7, b8, b9, b10, b11, b12, b13, b14, b15, b16, b17, b18, b19⟩ | ⟨ho, b0, b1, b2, b3, b4, b5, b6, b7, b8, b9, b10, b11, b12, b13, b14, b15, b16, b17, b18, b19⟩ | ⟨ho, b0, b1, b2, b3, b4, b5, b6, b7, b8, b9, b10, b11, b12, b13, b14, b15, b16, b17, b18, b19⟩
  · have hM : madeT op L = giv 3 (allT 3 L) := by subst ho; unfold madeT; rw [if_neg (by decide), if_neg (by decide), if_neg (by decide), if_neg (by decide), if_neg (by decide)]
    rw [hM]
    clear ho hM HH2 HV
    generalize tx op = T at *
    go_enter Tryz.func46, Tryz.ntmps46
    go_wp2_with (first | (go_at_call 64; refine (HA3.out).mono ?_; rintro e w1 ⟨rfl, rfl⟩) | (go_at_call 63; refine (HG3.out _ _).mono ?_; rintro e w1 ⟨rfl, rfl⟩))
    go_ret
    exact ⟨rfl, Below.refl _ _⟩
  · have hM : madeT op L = giv 3 (allT 3 L) := by subst ho; unfold madeT; rw [if_neg (by decide), if_neg (by decide), if_neg (by decide), if_neg (by decide), if_neg (by decide)]
    rw [hM]
    clear ho hM HH2 HV
    generalize tx op = T at *
    go_enter Tryz.func46, Tryz.ntmps46
    go_wp2_with (first | (go_at_call 64; refine (HA3.out).mono ?_; rintro e w1 ⟨rfl, rfl⟩) | (go_at_call 63; refine (HG3.out _ _).mono ?_; rintro e w1 ⟨rfl, rfl⟩))
    go_ret
    exact ⟨rfl, Below.refl _ _⟩
  · have hM : madeT op L = giv 3 (allT 3 L) := by subst ho; unfold madeT; rw [if_neg (by decide), if_neg (by decide), if_neg (by decide), if_neg (by decide), if_neg (by decide)]
    rw [hM]
    clear ho hM HH2 HV
    generalize tx op = T at *
    go_enter Tryz.func46, Tryz.ntmps46
    go_wp2_with (first | (go_at_call 64; refine (HA3.out).mono ?_; rintro e w1 ⟨rfl, rfl⟩) | (go_at_call 63; refine (HG3.out _ _).mono ?_; rintro e w1 ⟨rfl, rfl⟩))
    go_ret
    exact ⟨rfl, Below.refl _ _⟩
  · have hM : madeT op L = giv 3 (allT 3 L) := by subst ho; unfold madeT; rw [if_neg (by decide), if_neg (by decide), if_neg (by decide), if_neg (by decide), if_neg (by decide)]
    rw [hM]
    clear ho hM HH2 HV
    generalize tx op = T at *
    go_enter Tryz.func46, Tryz.ntmps46
    go_wp2_with (first | (go_at_call 64; refine (HA3.out).mono ?_; rintro e w1 ⟨rfl, rfl⟩) | (go_at_call 63; refine (HG3.out _ _).mono ?_; rintro e w1 ⟨rfl, rfl⟩))
    go_ret
    exact ⟨rfl, Below.refl _ _⟩
  · have hM : madeT op L = giv 1 (allT 1 L) := by subst ho; unfold madeT; rw [if_pos (by decide)]
    rw [hM]
    clear ho hM HH2 HV
    generalize tx op = T at *
    go_enter Tryz.func46, Tryz.ntmps46
    go_wp2_with (first | (go_at_call 64; refine (HA1.out).mono ?_; rintro e w1 ⟨rfl, rfl⟩) | (go_at_call 63; refine (HG1.out _ _).mono ?_; rintro e w1 ⟨rfl, rfl⟩))
    go_ret
    exact ⟨rfl, Below.refl _ _⟩
  · have hM : madeT op L = giv 1 (allT 2 L) := by subst ho; unfold madeT; rw [if_neg (by decide), if_pos (by decide)]
    rw [hM]
    clear ho hM HH2 HV
    generalize tx op = T at *
    go_enter Tryz.func46, Tryz.ntmps46
    go_wp2_with (first | (go_at_call 64; refine (HA2.out).mono ?_; rintro e w1 ⟨rfl, rfl⟩) | (go_at_call 63; refine (HG1.out _ _).mono ?_; rintro e w1 ⟨rfl, rfl⟩))
    go_ret
    exact ⟨rfl, Below.refl _ _⟩
  · have hM : madeT op L = giv 1 (allT 1 L) := by subst ho; unfold madeT; rw [if_pos (by decide)]
    rw [hM]
    clear ho hM HH2 HV
    generalize tx op = T at *
    go_enter Tryz.func46, Tryz.ntmps46
    go_wp2_with (first | (go_at_call 64; refine (HA1.out).mono ?_; rintro e w1 ⟨rfl, rfl⟩) | (go_at_call 63; refine (HG1.out _ _).mono ?_; rintro e w1 ⟨rfl, rfl⟩))
    go_ret
    exact ⟨rfl, Below.refl _ _⟩
  · have hM : madeT op L = giv 3 (allT 3 L) := by subst ho; unfold madeT; rw [if_neg (by decide), if_neg (by decide), if_neg (by decide), if_neg (by decide), if_neg (by decide)]
    rw [hM]
    clear ho hM HH2 HV
    generalize tx op = T at *
    go_enter Tryz.func46, Tryz.ntmps46
    go_wp2_with (first | (go_at_call 64; refine (HA3.out).mono ?_; rintro e w1 ⟨rfl, rfl⟩) | (go_at_call 63; refine (HG3.out _ _).mono ?_; rintro e w1 ⟨rfl, rfl⟩))
    go_ret
    exact ⟨rfl, Below.refl _ _⟩
  · have hM : madeT op L = giv 3 (allT 3 L) := by subst ho; unfold madeT; rw [if_neg (by decide), if_neg (by decide), if_neg (by decide), if_neg (by decide), if_neg (by decide)]
    rw [hM]
    clear ho hM HH2 HV
    generalize tx op = T at *
    go_enter Tryz.func46, Tryz.ntmps46
    go_wp2_with (first | (go_at_call 64; refine (HA3.out).mono ?_; rintro e w1 ⟨rfl, rfl⟩) | (go_at_call 63; refine (HG3.out _ _).mono ?_; rintro e w1 ⟨rfl, rfl⟩))
    go_ret
    exact ⟨rfl, Below.refl _ _⟩
  · have hM : madeT op L = giv 3 (allT 2 L) := by subst ho; unfold madeT; rw [if_neg (by decide), if_neg (by decide), if_neg (by decide), if_neg (by decide), if_pos (by decide)]
    rw [hM]
    clear ho hM HH2 HV
    generalize tx op = T at *
    go_enter Tryz.func46, Tryz.ntmps46
    go_wp2_with (first | (go_at_call 64; refine (HA2.out).mono ?_; rintro e w1 ⟨rfl, rfl⟩) | (go_at_call 63; refine (HG3.out _ _).mono ?_; rintro e w1 ⟨rfl, rfl⟩))
    go_ret
    exact ⟨rfl, Below.refl _ _⟩
  · have hM : madeT op L = giv 3 (L.getD 0 0 == L.getD 1 0) := by subst ho; unfold madeT; rw [if_neg (by decide), if_neg (by decide), if_neg (by decide), if_pos (by decide)]
    rw [hM]
    have hl : L.length = 2 := HH2.out (by subst ho; decide)
    obtain ⟨t0, t1, rfl⟩ : ∃ t0 t1, L = [t0, t1] := by
      match L, hl with
      | [t0, t1], _ => exact ⟨t0, t1, rfl⟩
    obtain ⟨x', cap, hv', hcap, hx, hc⟩ := HV.out
    cases hv'
    obtain ⟨a, rfl⟩ : ∃ a, x = some a := by
      cases x with
      | none => have := hx rfl; cases this
      | some a => exact ⟨a, rfl⟩
    have c0 := hc a rfl 0 t0 rfl
    have c1 := hc a rfl 1 t1 rfl
    rw [show a.add 0 = a from rfl] at c0
    have c1' : w.cell? ⟨a.block, a.off + 1, none⟩ = some (.int .i64 (t1 : Nat)) := by simpa [Addr.add] using c1
    have HEQ : ((t0 : Int) == (t1 : Int)) = (t0 == t1) := Bool.eq_iff_iff.2 (by rw [beq_iff_eq, beq_iff_eq]; omega)
    have HG4 : Hid (∀ W, Calls Tryz.prog 63 #[.int .i64 3, .bool ((t0 : Int) == (t1 : Int))] W fun e w' => e = .returned (.int .i64 (giv 3 (t0 == t1) : Nat)) ∧ W = w') := Lib.hid (fun W => by rw [HEQ]; exact wgiven 3 _ W)
    have HL2 : Hid (madeT op [t0, t1] = giv 3 (t0 == t1)) := Lib.hid hM
    show Calls Tryz.prog 46 #[.string (tx op), .slice (some a) 2 cp] w fun e w' => e = .returned (.int .i64 (giv 3 (t0 == t1) : Nat)) ∧ Below w.heap.size w w'
    clear ho hM hc hx c1 hl HEQ HV HH2 HA1 HA2 HA3 HG1 HG3 HL2 hcap
    generalize tx op = T at *
    go_enter Tryz.func46, Tryz.ntmps46
    go_wp2
    go_quiet ((go_at_call 63; exact quiet_eq (HG4.out _)))
    go_wp2
    go_ret
    exact ⟨rfl, ⟨rfl, rfl, rfl, Nat.le_refl _, fun _ _ => rfl⟩⟩
  · have hM : madeT op L = giv 3 (L.getD 0 0 == L.getD 1 0) := by subst ho; unfold madeT; rw [if_neg (by decide), if_neg (by decide), if_neg (by decide), if_pos (by decide)]
    rw [hM]
    have hl : L.length = 2 := HH2.out (by subst ho; decide)
    obtain ⟨t0, t1, rfl⟩ : ∃ t0 t1, L = [t0, t1] := by
      match L, hl with
      | [t0, t1], _ => exact ⟨t0, t1, rfl⟩
    obtain ⟨x', cap, hv', hcap, hx, hc⟩ := HV.out
    cases hv'
    obtain ⟨a, rfl⟩ : ∃ a, x = some a := by
      cases x with
      | none => have := hx rfl; cases this
      | some a => exact ⟨a, rfl⟩
    have c0 := hc a rfl 0 t0 rfl
    have c1 := hc a rfl 1 t1 rfl
    rw [show a.add 0 = a from rfl] at c0
    have c1' : w.cell? ⟨a.block, a.off + 1, none⟩ = some (.int .i64 (t1 : Nat)) := by simpa [Addr.add] using c1
    have HEQ : ((t0 : Int) == (t1 : Int)) = (t0 == t1) := Bool.eq_iff_iff.2 (by rw [beq_iff_eq, beq_iff_eq]; omega)
    have HG4 : Hid (∀ W, Calls Tryz.prog 63 #[.int .i64 3, .bool ((t0 : Int) == (t1 : Int))] W fun e w' => e = .returned (.int .i64 (giv 3 (t0 == t1) : Nat)) ∧ W = w') := Lib.hid (fun W => by rw [HEQ]; exact wgiven 3 _ W)
    have HL2 : Hid (madeT op [t0, t1] = giv 3 (t0 == t1)) := Lib.hid hM
    show Calls Tryz.prog 46 #[.string (tx op), .slice (some a) 2 cp] w fun e w' => e = .returned (.int .i64 (giv 3 (t0 == t1) : Nat)) ∧ Below w.heap.size w w'
    clear ho hM hc hx c1 hl HEQ HV HH2 HA1 HA2 HA3 HG1 HG3 HL2 hcap
    generalize tx op = T at *
    go_enter Tryz.func46, Tryz.ntmps46
    go_wp2
    go_quiet ((go_at_call 63; exact quiet_eq (HG4.out _)))
    go_wp2
    go_ret
    exact ⟨rfl, ⟨rfl, rfl, rfl, Nat.le_refl _, fun _ _ => rfl⟩⟩
  · have hM : madeT op L = giv 3 (allT 1 L) := by subst ho; unfold madeT; rw [if_neg (by decide), if_neg (by decide), if_pos (by decide)]
    rw [hM]
    clear ho hM HH2 HV
    generalize tx op = T at *
    go_enter Tryz.func46, Tryz.ntmps46
    go_wp2_with (first | (go_at_call 64; refine (HA1.out).mono ?_; rintro e w1 ⟨rfl, rfl⟩) | (go_at_call 63; refine (HG3.out _ _).mono ?_; rintro e w1 ⟨rfl, rfl⟩))
    go_ret
    exact ⟨rfl, Below.refl _ _⟩
  · have hM : madeT op L = giv 3 (allT 1 L) := by subst ho; unfold madeT; rw [if_neg (by decide), if_neg (by decide), if_pos (by decide)]
    rw [hM]
    clear ho hM HH2 HV
    generalize tx op = T at *
    go_enter Tryz.func46, Tryz.ntmps46
    go_wp2_with (first | (go_at_call 64; refine (HA1.out).mono ?_; rintro e w1 ⟨rfl, rfl⟩) | (go_at_call 63; refine (HG3.out _ _).mono ?_; rintro e w1 ⟨rfl, rfl⟩))
    go_ret
    exact ⟨rfl, Below.refl _ _⟩
  · have hM : madeT op L = giv 3 (allT 1 L) := by subst ho; unfold madeT; rw [if_neg (by decide), if_neg (by decide), if_pos (by decide)]
    rw [hM]
    clear ho hM HH2 HV
    generalize tx op = T at *
    go_enter Tryz.func46, Tryz.ntmps46
    go_wp2_with (first | (go_at_call 64; refine (HA1.out).mono ?_; rintro e w1 ⟨rfl, rfl⟩) | (go_at_call 63; refine (HG3.out _ _).mono ?_; rintro e w1 ⟨rfl, rfl⟩))
    go_ret
    exact ⟨rfl, Below.refl _ _⟩
  · have hM : madeT op L = giv 3 (allT 1 L) := by subst ho; unfold madeT; rw [if_neg (by decide), if_neg (by decide), if_pos (by decide)]
    rw [hM]
    clear ho hM HH2 HV
    generalize tx op = T at *
    go_enter Tryz.func46, Tryz.ntmps46
    go_wp2_with (first | (go_at_call 64; refine (HA1.out).mono ?_; rintro e w1 ⟨rfl, rfl⟩) | (go_at_call 63; refine (HG3.out _ _).mono ?_; rintro e w1 ⟨rfl, rfl⟩))
    go_ret
    exact ⟨rfl, Below.refl _ _⟩
  · have hM : madeT op L = giv 1 (allT 1 L) := by subst ho; unfold madeT; rw [if_pos (by decide)]
    rw [hM]
    clear ho hM HH2 HV
    generalize tx op = T at *
    go_enter Tryz.func46, Tryz.ntmps46
    go_wp2_with (first | (go_at_call 64; refine (HA1.out).mono ?_; rintro e w1 ⟨rfl, rfl⟩) | (go_at_call 63; refine (HG1.out _ _).mono ?_; rintro e w1 ⟨rfl, rfl⟩))
    go_ret
    exact ⟨rfl, Below.refl _ _⟩
  · have hM : madeT op L = giv 1 (allT 1 L) := by subst ho; unfold madeT; rw [if_pos (by decide)]
    rw [hM]
    clear ho hM HH2 HV
    generalize tx op = T at *
    go_enter Tryz.func46, Tryz.ntmps46
    go_wp2_with (first | (go_at_call 64; refine (HA1.out).mono ?_; rintro e w1 ⟨rfl, rfl⟩) | (go_at_call 63; refine (HG1.out _ _).mono ?_; rintro e w1 ⟨rfl, rfl⟩))
    go_ret
    exact ⟨rfl, Below.refl _ _⟩
  · have hM : madeT op L = giv 1 (allT 1 L) := by subst ho; unfold madeT; rw [if_pos (by decide)]
    rw [hM]
    clear ho hM HH2 HV
    generalize tx op = T at *
    go_enter Tryz.func46, Tryz.ntmps46
    go_wp2_with (first | (go_at_call 64; refine (HA1.out).mono ?_; rintro e w1 ⟨rfl, rfl⟩) | (go_at_call 63; refine (HG1.out _ _).mono ?_; rintro e w1 ⟨rfl, rfl⟩))
    go_ret
    exact ⟨rfl, Below.refl _ _⟩
  · have hM : madeT op L = giv 1 (allT 1 L) := by subst ho; unfold madeT; rw [if_pos (by decide)]
    rw [hM]
    clear ho hM HH2 HV
    generalize tx op = T at *
    go_enter Tryz.func46, Tryz.ntmps46
    go_wp2_with (first | (go_at_call 64; refine (HA1.out).mono ?_; rintro e w1 ⟨rfl, rfl⟩) | (go_at_call 63; refine (HG1.out _ _).mono ?_; rintro e w1 ⟨rfl, rfl⟩))
    go_ret
    exact ⟨rfl, Below.refl _ _⟩
  · have hM : madeT op L = giv 3 (allT 3 L) := made_else L ho
    rw [hM]
    clear ho hM HH2 HV
    generalize tx op = T at *
    go_enter Tryz.func46, Tryz.ntmps46
    go_wp2_with (first | (go_at_call 64; refine (HA3.out).mono ?_; rintro e w1 ⟨rfl, rfl⟩) | (go_at_call 63; refine (HG3.out _ _).mono ?_; rintro e w1 ⟨rfl, rfl⟩))
    go_ret
    exact ⟨rfl, Below.refl _ _⟩
end Go.Proofs.YtfalcmbjjlgoaaaGreatDoor
/- Walk: bound. -/
namespace Go.Proofs.YtfalcmbjjlgoaaaGreatDoor
open Go.RowKit Go.Shelf
theorem bel1 (w : World) (o : Obj) : Below w.heap.size w (w.alloc o) := (Below.refl _ _).alloc (Nat.le_refl _) _
attribute [local go_sem] run_store_float
/-- Binds in memory. -/
def BndV (w : World) (v : Value) (L : List Bnd) : Prop := ∃ x cap, v = .slice x L.length cap ∧ L.length ≤ cap ∧ (x = none → L = []) ∧ ∀ a, x = some a → (L ≠ [] → a.block < w.heap.size) ∧ ∀ i b, L[i]? = some b →
  w.cell? (a.add (i * 5)) = some (.string (tx b.nm)) ∧ w.cell? (a.add (i * 5 + 1)) = some (.int .i64 b.v.t) ∧ w.cell? (a.add (i * 5 + 2)) = some (.float .f64 b.v.n) ∧ w.cell? (a.add (i * 5 + 3)) = some (.string (tx b.v.s)) ∧ w.cell? (a.add (i * 5 + 4)) = some (.bool b.v.b)
theorem BndV.agg {w : World} {v : Value} {L : List Bnd} (h : BndV w v L) : ∃ x n c, v = .slice x n c := by
  obtain ⟨x, cap, rfl, _⟩ := h; exact ⟨_, _, _, rfl⟩
theorem BndV.kept {w w' : World} {v : Value} {L : List Bnd} (h : BndV w v L) (hz : w.heap.size ≤ w'.heap.size) (hk : ∀ b, b < w.heap.size → w'.heap[b]? = w.heap[b]?) : BndV w' v L := by
  obtain ⟨x, cap, hv, h1, h2, h3⟩ := h
  refine ⟨x, cap, hv, h1, h2, fun a ha => ?_⟩
  obtain ⟨g0, g⟩ := h3 a ha
  refine ⟨fun e => Nat.lt_of_lt_of_le (g0 e) hz, fun i b hi => ?_⟩
  replace g0 := g0 (nil_not (List.getElem?_eq_some_iff.1 hi).1)
  obtain ⟨g1, g2, g3, g4, g5⟩ := g i b hi
  have hs : ∀ j, w'.heap[(a.add j).block]? = w.heap[(a.add j).block]? := fun j => by rw [add_block]; exact hk _ g0
  exact ⟨cell_same (hs _) g1, cell_same (hs _) g2, cell_same (hs _) g3, cell_same (hs _) g4, cell_same (hs _) g5⟩
theorem BndV.below {w w' : World} {v : Value} {L : List Bnd} (h : BndV w v L) (hb : Below w.heap.size w w') : BndV w' v L := h.kept hb.size hb.block
theorem BndV.nil (w : World) : BndV w (.slice none 0 0) [] := ⟨none, 0, rfl, Nat.le_refl _, fun _ => rfl, fun a ha => by cases ha⟩
/-- A variable of Val. -/
def VB (w : World) (g : Nat) (v0 v1 v2 v3 : Value) : Prop := w.heap[g]? = some (.cells #[v0, v1, v2, v3] 51 (0, 0))
theorem VB.cells {w : World} {g : Nat} {v0 v1 v2 v3 : Value} (h : VB w g v0 v1 v2 v3) : w.cell? ⟨g, 0, none⟩ = some v0 ∧ w.cell? ⟨g, 1, none⟩ = some v1 ∧ w.cell? ⟨g, 2, none⟩ = some v2 ∧ w.cell? ⟨g, 3, none⟩ = some v3 := by
  unfold VB at h
  exact ⟨by simp [World.cell?, h], by simp [World.cell?, h], by simp [World.cell?, h], by simp [World.cell?, h]⟩
theorem VB.fr {w : World} {g : Nat} {v0 v1 v2 v3 : Value} (h : VB w g v0 v1 v2 v3) (j : Nat) : w.frozen? ⟨g, j, none⟩ = false := by unfold VB at h; simp [World.frozen?, h]
theorem VB.lt {w : World} {g : Nat} {v0 v1 v2 v3 : Value} (h : VB w g v0 v1 v2 v3) : g < w.heap.size := (Array.getElem?_eq_some_iff.1 h).1
theorem VB.below {w w' : World} {g : Nat} {v0 v1 v2 v3 : Value} (h : VB w g v0 v1 v2 v3) (hb : Below w.heap.size w w') : VB w' g v0 v1 v2 v3 := (hb.block g h.lt).trans h
theorem VB.put {w : World} {g : Nat} {u0 u1 u2 u3 v0 v1 v2 v3 : Value} (h : VB w g u0 u1 u2 u3) : VB (putN w g v0 v1 v2 v3) g v0 v1 v2 v3 := by
  unfold putN VB
  rw [set_block (set_block (set_block (set_block h _) _) _) _]
  rfl
/-- What bound gives as a Go value. -/
def bvV (o : Option Vl) : Value := match o with
  | none => .agg #[.int .i64 0, .float .f64 0, .string (tx []), .bool false]
  | some v => .agg #[.int .i64 v.t, .float .f64 v.n, .string (tx v.s), .bool v.b]
theorem firstB_step {s : Bs} {L : List Bnd} {j : Nat} (h : j < L.length) : firstB s (L.drop j) = if L[j].nm = s then some L[j] else firstB s (L.drop (j + 1)) := by
  rw [List.drop_eq_getElem_cons h]
  rfl
theorem firstB_end {s : Bs} {L : List Bnd} {j : Nat} (h : L.length ≤ j) : firstB s (L.drop j) = none := by
  rw [List.drop_eq_nil_of_le h]
  rfl
set_option maxRecDepth 100000 in
set_option maxHeartbeats 8000000 in
theorem wbound (s : Bs) (v : Value) (L : List Bnd) (hL : L.length ≤ 1000000) (w : World) (h : BndV w v L) : Calls Tryz.prog 45 #[.string (tx s), v] w fun e w' => e = .returned (.tuple #[bvV (boundV L s), .bool (boundV L s).isSome]) ∧ Below w.heap.size w w' := by
  obtain ⟨x, cap, rfl, hcap, hx, hc⟩ := h
  have HC := Lib.hid hc
  have HX := Lib.hid hx
  obtain ⟨res, hres⟩ : ∃ y, y = boundV L s := ⟨_, rfl⟩
  rw [← hres]
  have HR : Hid (res = match firstB s (L.drop 0) with | none => none | some b => plainV b.v) := Lib.hid hres
  obtain ⟨N, hN⟩ : ∃ N, N = L.length := ⟨_, rfl⟩
  have HN := Lib.hid hN
  have HZ0 : Hid (VB (w.alloc (.cells #[.int .i64 0, .float .f64 0, .string ⟨#[]⟩, .bool false] 51)) w.heap.size (.int .i64 0) (.float .f64 0) (.string ⟨#[]⟩) (.bool false)) := Lib.hid (heap_alloc_new _ _)
  have HB0 := Lib.hid (bel1 w (.cells #[.int .i64 0, .float .f64 0, .string ⟨#[]⟩, .bool false] 51))
  rw [← hN] at hL hcap ⊢
  clear hc hx hN hres
  go_enter Tryz.func45, Tryz.ntmps45
  go_wp2_with fail
  generalize w.alloc (.cells #[.int .i64 0, .float .f64 0, .string ⟨#[]⟩, .bool false] 51) = W0 at HZ0 HB0 ⊢
  go_loopg [10] N (fun gh i wr => ∃ j : Nat, j + gh = N ∧ i = .int .i64 j ∧ Hid (res = match firstB s (L.drop j) with | none => none | some b => plainV b.v) ∧ Hid (VB wr w.heap.size (.int .i64 0) (.float .f64 0) (.string ⟨#[]⟩) (.bool false)) ∧ Hid (Below w.heap.size w wr))
  case atStart => exact ⟨0, by omega, rfl, HR, HZ0, HB0⟩
  case round =>
    obtain ⟨j, hj, rfl, HR1, HZ, HB⟩ := hrel
    clear HR HZ0 HB0
    have hlt := HZ.out.lt
    by_cases q : j < N
    · have hjl : j < L.length := by have := HN.out; omega
      obtain ⟨a, rfl⟩ : ∃ a, x = some a := by
        cases x with
        | none => have := HX.out rfl; rw [this] at hjl; cases hjl
        | some a => exact ⟨a, rfl⟩
      obtain ⟨e0, e1, e2, e3, e4⟩ := (HC.out a rfl).2 j L[j] (List.getElem?_eq_getElem hjl)
      have hab : a.block < w.heap.size := (HC.out a rfl).1 (nil_not hjl)
      have hs : ∀ k, wr.heap[(a.add k).block]? = w.heap[(a.add k).block]? := fun k => by rw [add_block]; exact HB.out.block _ hab
      have d0 := cell_same (hs _) e0
      have d1 := cell_same (hs _) e1
      have d2 := cell_same (hs _) e2
      have d3 := cell_same (hs _) e3
      have d4 := cell_same (hs _) e4
      rw [add_lit _ _ _ (by decide)] at d1 d2 d3 d4
      clear e0 e1 e2 e3 e4 hs
      have HST := Lib.hid (firstB_step (s := s) hjl)
      obtain ⟨bb, hbb⟩ : ∃ bb, bb = L[j] := ⟨_, rfl⟩
      rw [← hbb] at d0 d1 d2 d3 d4 HST
      clear hbb
      obtain ⟨nm, t, fn, sv, bv⟩ := bb
      simp only at d0 d1 d2 d3 d4
      by_cases q1 : nm = s
      · subst q1
        have HRV : Hid (res = plainV ⟨t, fn, sv, bv⟩) := Lib.hid (by rw [HR1.out, HST.out, if_pos rfl])
        have b0 : ((tx nm).toList != (tx nm).toList) = false := bne_self_eq_false _
        obtain ⟨k0, k1, k2, k3⟩ := HZ.out.cells
        have f0 := HZ.out.fr 0
        have f1 := HZ.out.fr 1
        have f2 := HZ.out.fr 2
        have f3 := HZ.out.fr 3
        have HPUT : Hid (∀ (u0 u1 u2 u3 : Value) (c : Obj), VB ((putN wr w.heap.size u0 u1 u2 u3).alloc c) w.heap.size u0 u1 u2 u3 ∧ Below w.heap.size w ((putN wr w.heap.size u0 u1 u2 u3).alloc c)) := Lib.hid (fun u0 u1 u2 u3 c => by
          have h1 := below_put (v0 := u0) (v1 := u1) (v2 := u2) (v3 := u3) HB.out (Nat.le_refl w.heap.size)
          have h2 := HZ.out.put (v0 := u0) (v1 := u1) (v2 := u2) (v3 := u3)
          exact ⟨h2.below ((Below.refl _ _).alloc (Nat.le_refl _) _), h1.alloc (by have := HB.out.size; rw [putN_size]; exact this) _⟩)
        clear HR1 HST HZ
        by_cases t1 : t = 1
        · subst t1
          go_wp2
          refine bodyPost_ret (results_cell_tmp rfl _ _ w.heap.size 51 _ _ _ rfl (HPUT.out _ _ _ _ _).1 Tryz.underlying51 rfl (by kernel_rfl)) rfl ?_
          rw [HRV.out]
          exact ⟨rfl, (HPUT.out _ _ _ _ _).2⟩
        · have i1 : (t == 1) = false := by simpa using t1
          by_cases t2 : t = 2
          · subst t2
            go_wp2
            refine bodyPost_ret (results_cell_tmp rfl _ _ w.heap.size 51 _ _ _ rfl (HPUT.out _ _ _ _ _).1 Tryz.underlying51 rfl (by kernel_rfl)) rfl ?_
            rw [HRV.out]
            exact ⟨rfl, (HPUT.out _ _ _ _ _).2⟩
          · have i2 : (t == 2) = false := by simpa using t2
            by_cases t3 : t = 3
            · subst t3
              go_wp2
              refine bodyPost_ret (results_cell_tmp rfl _ _ w.heap.size 51 _ _ _ rfl (HPUT.out _ _ _ _ _).1 Tryz.underlying51 rfl (by kernel_rfl)) rfl ?_
              rw [HRV.out]
              exact ⟨rfl, (HPUT.out _ _ _ _ _).2⟩
            · have i3 : (t == 3) = false := by simpa using t3
              have HRN : Hid (res = none) := Lib.hid (by rw [HRV.out]; unfold plainV; rw [if_neg t1, if_neg t2, if_neg t3])
              clear HRV
              go_wp2
              refine bodyPost_ret (results_cell_tmp rfl _ _ w.heap.size 51 _ _ _ rfl (HPUT.out _ _ _ _ _).1 Tryz.underlying51 rfl (by kernel_rfl)) rfl ?_
              rw [HRN.out]
              exact ⟨rfl, (HPUT.out _ _ _ _ _).2⟩
      · have b0 : ((tx nm).toList == (tx s).toList) = false := by rw [tx_toList, tx_toList]; simpa using q1
        have HR2 : Hid (res = match firstB s (L.drop (j + 1)) with | none => none | some b => plainV b.v) := Lib.hid (by rw [HR1.out, HST.out, if_neg q1])
        have HZ2 := Lib.hid (fun c => HZ.out.below ((Below.refl wr.heap.size wr).alloc (Nat.le_refl _) c))
        have HB2 := Lib.hid (fun c => HB.out.alloc HB.out.size c)
        clear q1 HR1 HST HZ HB
        go_wp2
        go_roundg (gk - 1)
        case measure => omega
        case rel => exact ⟨j + 1, by omega, by go_num, HR2, Lib.hid (HZ2.out _), Lib.hid (HB2.out _)⟩
    · have HRN : Hid (res = none) := Lib.hid (by rw [HR1.out, firstB_end (by have := HN.out; omega)])
      obtain ⟨k0, k1, k2, k3⟩ := HZ.out.cells
      have f0 := HZ.out.fr 0
      have f1 := HZ.out.fr 1
      have f2 := HZ.out.fr 2
      have f3 := HZ.out.fr 3
      have HPUT : Hid (∀ (u0 u1 u2 u3 : Value) (_ : Obj), VB ((putN wr w.heap.size u0 u1 u2 u3)) w.heap.size u0 u1 u2 u3 ∧ Below w.heap.size w ((putN wr w.heap.size u0 u1 u2 u3))) := Lib.hid (fun u0 u1 u2 u3 _ => by
        have h1 := below_put (v0 := u0) (v1 := u1) (v2 := u2) (v3 := u3) HB.out (Nat.le_refl w.heap.size)
        have h2 := HZ.out.put (v0 := u0) (v1 := u1) (v2 := u2) (v3 := u3)
        exact ⟨h2, h1⟩)
      clear HZ HR1
      go_wp2
      refine bodyPost_ret (results_cell_tmp rfl _ _ w.heap.size 51 _ _ _ rfl (HPUT.out _ _ _ _ (.cells #[] 0)).1 Tryz.underlying51 rfl (by kernel_rfl)) rfl ?_
      rw [HRN.out]
      exact ⟨rfl, (HPUT.out _ _ _ _ (.cells #[] 0)).2⟩
end Go.Proofs.YtfalcmbjjlgoaaaGreatDoor
/- Walks: the reference's Depth. -/
namespace Go.Proofs.YtfalcmbjjlgoaaaGreatDoor
open Go.RowKit Go.Shelf
attribute [local go_sem] run_store_float
set_option maxRecDepth 100000 in
set_option maxHeartbeats 4000000 in
theorem rdepth : ∀ (n : Nat) (t : Tree), szT t ≤ n → ∀ (A : Nat → Prop) (v : Value) (w : World), szT t ≤ 1000000 → NodeV A w v t →
    Calls Tryz.prog 19 #[v] w fun e w' => e = .returned (.int .i64 (depT t)) ∧ Below w.heap.size w w' := by
  intro n
  induction n with
  | zero => intro t h; cases t; simp only [szT] at h; omega
  | succ n ih =>
    intro t hn A v w hd hv
    obtain ⟨op, fn, s, l⟩ := t
    have HV := Lib.hid hv
    obtain ⟨x, cap, rfl, hcap, hx, hch⟩ := hv
    have HIH := Lib.hid ih
    have HN := Lib.hid (show szL l ≤ n by simp only [szT] at hn; omega)
    have HD := Lib.hid (show 1 + szL l ≤ 1000000 by simpa only [szT] using hd)
    have hdd := Lib.hid (show depL l ≤ 1000000 by have := depL_sz l; have := HD.out; omega)
    have HC := Lib.hid hch
    have hll : l.length ≤ 1000000 := by have := len_szL l; have := HD.out; omega
    have HX := Lib.hid hx
    have hdt : depT (.mk op fn s l) = depL l + 1 := by simp only [depT]
    rw [hdt]
    obtain ⟨N, hN⟩ : ∃ N, N = l.length := ⟨_, rfl⟩
    rw [← hN] at hll hcap HV ⊢
    have HNL := Lib.hid hN
    clear hN hn hd hch hx ih hdt
    go_enter Tryz.func19, Tryz.ntmps19
    go_wp2_with fail
    go_loopg [3, 4] N (fun gh m i wr => ∃ j : Nat, j + gh = N ∧ i = .int .i64 j ∧ m = .int .i64 (depL (l.take j)) ∧ Hid (Below w.heap.size w wr) ∧ Hid (NB wr w.heap.size (.agg #[.string (tx op), .float .f64 fn, .string (tx s), .slice x N cap])))
    case atStart => exact ⟨0, by omega, rfl, rfl, Lib.hid ((Below.refl _ _).alloc (Nat.le_refl _) _), Lib.hid ⟨_, _, _, _, rfl, heap_alloc_new _ _⟩⟩
    case round =>
      obtain ⟨j, hj, rfl, rfl, HB, HNB⟩ := hrel
      obtain ⟨p0, p1, p2, p3, _⟩ := HNB.out.cells
      have hbl := HNB.out.lt
      by_cases q : j < N
      · have hjl : j < l.length := by have := HNL.out; omega
        obtain ⟨a, rfl⟩ : ∃ a, x = some a := by
          cases x with
          | none => have := HX.out rfl; rw [this] at hjl; cases hjl
          | some a => exact ⟨a, rfl⟩
        obtain ⟨v0, v1, v2, v3, e0, e1, e2, e3, hnode⟩ := NodesV.get l 0 (HC.out a rfl).2 j hjl
        rw [Nat.zero_add] at e0 e1 e2 e3
        have hab : a.block < w.heap.size := ((HC.out a rfl).1 (nil_not hjl)).2
        have hs : ∀ k, wr.heap[(a.add k).block]? = w.heap[(a.add k).block]? := fun k => by rw [add_block]; exact HB.out.block _ hab
        have d0 := cell_same (hs _) e0
        have d1 := cell_same (hs _) e1
        have d2 := cell_same (hs _) e2
        have d3 := cell_same (hs _) e3
        rw [add_lit _ _ _ (by decide)] at d1 d2 d3
        clear e0 e1 e2 e3 hs
        obtain ⟨o1, n1, s1, x1, l1, c1, hag⟩ := hnode.agg
        cases hag
        have HNODE := Lib.hid hnode
        clear hnode
        have HSN : Hid (depL (l.take (j + 1)) = max (depL (l.take j)) (depT l[j])) := Lib.hid (by rw [List.take_succ_eq_append_getElem hjl, depL_snoc])
        have HBD := Lib.hid (show depL (l.take j) ≤ 1000000 ∧ depL (l.take (j + 1)) ≤ 1000000 by have := depL_take l j; have := depL_take l (j + 1); have := hdd.out; omega)
        have HCH : Hid (∀ W, Below w.heap.size w W → Calls Tryz.prog 19 #[.agg #[.string o1, .float .f64 n1, .string s1, .slice x1 l1 c1]] W fun e w' => e = .returned (.int .i64 (depT l[j])) ∧ Below W.heap.size W w') := Lib.hid (fun W hW => by
          have h1 := szL_get l j hjl
          have h2 := HN.out
          have h3 := HD.out
          exact HIH.out l[j] (by omega) A _ W (by omega) (HNODE.out.below hW))
        obtain ⟨P1, hP1⟩ : ∃ P1, P1 = depL (l.take j) := ⟨_, rfl⟩
        obtain ⟨P2, hP2⟩ : ∃ P2, P2 = depL (l.take (j + 1)) := ⟨_, rfl⟩
        obtain ⟨P3, hP3⟩ : ∃ P3, P3 = depT l[j] := ⟨_, rfl⟩
        rw [← hP1, ← hP2] at HBD
        rw [← hP1, ← hP2, ← hP3] at HSN
        rw [← hP3] at HCH
        rw [← hP1]
        have HP2 := Lib.hid hP2
        have hmx : max (P1 : Int) (P3 : Int) = (P2 : Int) := by have := HSN.out; omega
        clear hP1 hP2 hP3
        go_wp2_with (first | (go_at_call 19; fail))
        refine (HCH.out _ HB.out).mono ?_
        rintro e w2 ⟨rfl, hb2⟩
        have HB2 := Lib.hid (HB.out.trans (below_le hb2 HB.out.size))
        have HNB2 := Lib.hid (HNB.out.below hb2)
        clear hb2 d0 d1 d2 d3
        go_wp2
        go_roundg (gk - 1)
        case measure => omega
        case rel => exact ⟨j + 1, by omega, by go_num, by rw [← HP2.out], HB2, HNB2⟩
      · have e : j = l.length := by have := HNL.out; omega
        rw [show l.take j = l by rw [e, List.take_length]]
        have hd2 := hdd.out
        obtain ⟨D, hD⟩ : ∃ D, D = depL l := ⟨_, rfl⟩
        have HDV := Lib.hid hD
        rw [← hD] at hd2 ⊢
        clear e hD
        go_wp2
        go_ret
        exact ⟨by rw [← HDV.out]; rfl, HB.out⟩
end Go.Proofs.YtfalcmbjjlgoaaaGreatDoor
