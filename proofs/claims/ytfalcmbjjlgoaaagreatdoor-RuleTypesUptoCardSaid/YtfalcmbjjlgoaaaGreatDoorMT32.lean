/- Own texts, merged: S4, S5, S6. -/
import Derived.Laws.FloatArith
import Derived.Test.YtfalcmbjjlgoaaaGreatDoorH0
import Derived.Test.YtfalcmbjjlgoaaaGreatDoorS1
import Derived.Test.YtfalcmbjjlgoaaaGreatDoorMT31
/- Numbers up to which NaN they are: what the operations give, and what a NaN drawn from the tape is. -/
namespace Go.Proofs.YtfalcmbjjlgoaaaGreatDoor
open Go.RowKit Ieee
/-- The NaN that the tape gives. -/
def nanB (x y : Nat) (W : World) : Nat := (Question.nanBits .f64 x y).cut (W.tape W.drawn (.nanBits .f64 x y))
theorem nanB_nan (x y : Nat) (W : World) : isNan (nanB x y W) = true := by
  have key : ∀ t, isNan ((t % 2) * 2 ^ 63 + 0x7ff0000000000000 + 1 + (t / 2) % (2 ^ 52 - 1)) = true := fun t => by
    have e1 : (2 : Nat) ^ 63 = 9223372036854775808 := by decide
    have e2 : (2 : Nat) ^ 52 = 4503599627370496 := by decide
    unfold isNan rung
    rw [e1, e2]
    have h2 : (t / 2) % (4503599627370496 - 1) < 4503599627370495 := Nat.mod_lt _ (by decide)
    generalize (t / 2) % (4503599627370496 - 1) = q at h2 ⊢
    have h1 : t % 2 < 2 := Nat.mod_lt _ (by decide)
    generalize t % 2 = p at h1 ⊢
    exact decide_eq_true (by omega)
  exact key _
theorem run_float_nan (P : Program) (w : World) (op : BinOp) (hop : op = .add ∨ op = .sub ∨ op = .mul ∨ op = .quo) (t : TypeId) (x y : Nat) (h : floatBits op .f64 x y = none) : (binOp op t (.float .f64 x) (.float .f64 y)).run P w = .ok (.float .f64 (nanB x y w)) w.drew := by
  unfold floatBits at h
  rcases hop with rfl | rfl | rfl | rfl <;> simp only at h
  all_goals simp [binOp, Op.floatArith, h, choose, nanB]; rfl
theorem nan_write {d : Option Datum} {r : Nat} (h : d.map double.write = some r) (hd : ∀ s f, d ≠ some (.nan s f)) : isNan r = false := by
  cases d with
  | none => cases h
  | some d =>
    cases h
    cases d with
    | nan s f => exact absurd rfl (hd s f)
    | infinity s => exact nan_inf s
    | number s m i => exact nan_nearest s m i
theorem sum_nan (a b : Datum) (s : Bool) (f : Nat) : a.sum b ≠ some (.nan s f) := by
  cases a <;> cases b <;> simp [Datum.sum]
theorem product_nan (a b : Datum) (s : Bool) (f : Nat) : a.product b ≠ some (.nan s f) := by
  cases a <;> cases b <;> simp [Datum.product] <;> split <;> simp
theorem quotient_nan (k : Nat) (a b : Datum) (s : Bool) (f : Nat) : a.quotient k b ≠ some (.nan s f) := by
  cases a <;> cases b <;> simp [Datum.quotient]
  split
  · split <;> simp
  · simp
theorem bits_num {op : BinOp} {x y r : Nat} (h : floatBits op .f64 x y = some r) : isNan r = false := by
  unfold floatBits at h
  split at h
  · exact nan_write h (sum_nan _ _)
  · exact nan_write h (sum_nan _ _)
  · exact nan_write h (product_nan _ _)
  · exact nan_write h (quotient_nan _ _ _)
  · cases h
theorem nan_read {x : Nat} (h : isNan x = true) : ∃ s f, double.read x = .nan s f := by
  obtain ⟨f, hf⟩ := read_nan x (by simpa [isNan] using h)
  exact ⟨_, f, hf⟩
theorem bits_nan (op : BinOp) (x y : Nat) (h : isNan x = true ∨ isNan y = true) : floatBits op .f64 x y = none := by
  have k1 : ∀ d, (Datum.nan true 0).sum d = none := fun d => by cases d <;> rfl
  have hx : ∀ s f d, (Datum.nan s f).sum d = none ∧ (Datum.nan s f).product d = none ∧ ∀ k, (Datum.nan s f).quotient k d = none := fun s f d => by cases d <;> exact ⟨rfl, rfl, fun _ => rfl⟩
  have hy : ∀ s f d, (d : Datum).sum (Datum.nan s f) = none ∧ d.product (Datum.nan s f) = none ∧ ∀ k, d.quotient k (Datum.nan s f) = none := fun s f d => by cases d <;> exact ⟨rfl, rfl, fun _ => rfl⟩
  have hd : FloatKind.f64.format = double := rfl
  unfold floatBits
  rw [hd]
  rcases h with h | h
  · obtain ⟨s, f, hr⟩ := nan_read h
    cases op <;> simp only [Format.add, Format.sub, Format.mul, Format.div, hr] <;> first | rfl | (rw [(hx s f _).1]; rfl) | (rw [(hx s f _).2.1]; rfl) | (rw [(hx s f _).2.2]; rfl)
  · obtain ⟨s, f, hr⟩ := nan_read h
    cases op <;> simp only [Format.add, Format.sub, Format.mul, Format.div, hr, Datum.opposite] <;> first | rfl | (rw [(hy _ _ _).1]; rfl) | (rw [(hy _ _ _).2.1]; rfl) | (rw [(hy _ _ _).2.2]; rfl)
theorem fA_num {x : Nat} (h : isNan x = false) : fA x = some x := by unfold fA; rw [h]; rfl
theorem fA_nan {x : Nat} (h : isNan x = true) : fA x = none := by unfold fA; rw [h]; rfl
/-- What an operation gives, up to which NaN: its bits, or the tape's NaN. -/
theorem arA_bits (op : BinOp) (f : Nat → Nat → Option Nat) (hf : ∀ x y, floatBits op .f64 x y = f x y) (x y : Nat) : arA f (fA x) (fA y) = floatBits op .f64 x y := by
  cases hx : isNan x
  · cases hy : isNan y
    · rw [fA_num hx, fA_num hy, hf]; rfl
    · rw [fA_nan hy, bits_nan op x y (.inr hy)]
      cases fA x <;> rfl
  · rw [fA_nan hx, bits_nan op x y (.inl hx)]; rfl
theorem arA_some {op : BinOp} {f : Nat → Nat → Option Nat} (hf : ∀ x y, floatBits op .f64 x y = f x y) {x y r : Nat} (h : floatBits op .f64 x y = some r) : fA r = arA f (fA x) (fA y) := by
  rw [arA_bits op f hf, h, fA_num (bits_num h)]
theorem arA_none {op : BinOp} {f : Nat → Nat → Option Nat} (hf : ∀ x y, floatBits op .f64 x y = f x y) {x y : Nat} (W : World) (h : floatBits op .f64 x y = none) : fA (nanB x y W) = arA f (fA x) (fA y) := by
  rw [arA_bits op f hf, h, fA_nan (nanB_nan x y W)]
/-- A comparison, up to which NaN. -/
theorem cmpA_order (p : Ordering → Bool) (x y : Nat) : cmpA p (fA x) (fA y) = match double.order x y with | some c => p c | none => false := by
  cases hx : isNan x
  · cases hy : isNan y
    · rw [fA_num hx, fA_num hy]; rfl
    · rw [fA_nan hy, order_nan x y (.inr hy)]
      cases fA x <;> rfl
  · rw [fA_nan hx, order_nan x y (.inl hx)]; rfl
theorem rung_neg (x : Nat) : rung (x ^^^ 2 ^ 63) = rung x := by
  unfold rung
  apply Nat.eq_of_testBit_eq
  intro i
  simp only [Nat.testBit_mod_two_pow, Nat.testBit_xor, Nat.testBit_two_pow]
  by_cases h : i < 63
  · have : ¬ 63 = i := by omega
    simp [h, this]
  · simp [h]
theorem negA_neg (x : Nat) : fA (x ^^^ 2 ^ 63) = negA (fA x) := by
  have h : isNan (x ^^^ 2 ^ 63) = isNan x := by unfold isNan; rw [rung_neg]
  unfold fA
  rw [h]
  split <;> rfl
theorem absA_abs (x : Nat) : fA (x % 2 ^ 63) = absA (fA x) := by
  have h : isNan (x % 2 ^ 63) = isNan x := by unfold isNan rung; rw [Nat.mod_mod]
  unfold fA
  rw [h]
  split <;> rfl
end Go.Proofs.YtfalcmbjjlgoaaaGreatDoor
/- Values in memory; walks: num, truth, equal, Abs. -/
namespace Go.Proofs.YtfalcmbjjlgoaaaGreatDoor
open Go.RowKit Go.Shelf Ieee
attribute [local go_sem] run_store_float
/-- A value as a Go value. -/
def ValV (v : Value) (a : Av) : Prop := ∃ n, v = .agg #[.int .i64 a.t, .float .f64 n, .string (tx a.s), .bool a.b] ∧ fA n = a.n
/-- What a call that gives a value ends in. -/
def VEnd (a : Av) (w : World) (e : Ending) (w' : World) : Prop := Below w.heap.size w w' ∧ ∃ v, e = .returned v ∧ ValV v a
theorem val_res {fn : Func} {p : Tmp} (h : fn.results = #[.cell p 51]) (tmps : Array Value) (w : World) (g : Nat) (v0 v1 v2 v3 : Value) (hp : tmps.getD p undef = .pointer (some ⟨g, 0, none⟩))
    (hg : w.heap[g]? = some (.cells #[v0, v1, v2, v3] 51 (0, 0))) : (results fn tmps).run Tryz.prog w = .ok (.agg #[v0, v1, v2, v3]) w :=
  results_cell h tmps w g 51 _ _ _ hp hg Tryz.underlying51 rfl (by kernel_rfl)
theorem fA_zero : fA 0 = some 0 := by decide
set_option maxHeartbeats 1000000 in
theorem wnumV (n : Nat) (w : World) : Calls Tryz.prog 79 #[.float .f64 n] w (VEnd (avN (fA n)) w) := by
  go_enter Tryz.func79, Tryz.ntmps79
  go_wp2
  refine bodyPost_ret (val_res rfl _ _ w.heap.size _ _ _ _ rfl (heap_alloc_new _ _)) rfl ?_
  exact ⟨(Below.refl _ _).alloc (Nat.le_refl _) _, _, rfl, n, rfl, rfl⟩
set_option maxHeartbeats 1000000 in
theorem wtruthV (b : Bool) (w : World) : Calls Tryz.prog 80 #[.bool b] w (VEnd (avB b) w) := by
  go_enter Tryz.func80, Tryz.ntmps80
  go_wp2
  refine bodyPost_ret (val_res rfl _ _ w.heap.size _ _ _ _ rfl (heap_alloc_new _ _)) rfl ?_
  exact ⟨(Below.refl _ _).alloc (Nat.le_refl _) _, _, rfl, 0, rfl, fA_zero⟩
theorem isEq_order (x y : Nat) : (FloatKind.f64.format.order x y == some .eq) = cmpA isEq (fA x) (fA y) := by
  rw [cmpA_order]
  show (double.order x y == some .eq) = _
  cases double.order x y with
  | none => rfl
  | some c => cases c <;> rfl
theorem isLt_order (x y : Nat) : (FloatKind.f64.format.order x y == some .lt) = cmpA isLt (fA x) (fA y) := by
  rw [cmpA_order]
  show (double.order x y == some .lt) = _
  cases double.order x y with
  | none => rfl
  | some c => cases c <;> rfl
theorem isGt_order (x y : Nat) : (FloatKind.f64.format.order x y == some .gt) = cmpA isGt (fA x) (fA y) := by
  rw [cmpA_order]
  show (double.order x y == some .gt) = _
  cases double.order x y with
  | none => rfl
  | some c => cases c <;> rfl
theorem isLe_order (x y : Nat) : (FloatKind.f64.format.order x y == some .lt || FloatKind.f64.format.order x y == some .eq) = cmpA isLe (fA x) (fA y) := by
  rw [cmpA_order]
  show (double.order x y == some .lt || double.order x y == some .eq) = _
  cases double.order x y with
  | none => rfl
  | some c => cases c <;> rfl
theorem isGe_order (x y : Nat) : (FloatKind.f64.format.order x y == some .gt || FloatKind.f64.format.order x y == some .eq) = cmpA isGe (fA x) (fA y) := by
  rw [cmpA_order]
  show (double.order x y == some .gt || double.order x y == some .eq) = _
  cases double.order x y with
  | none => rfl
  | some c => cases c <;> rfl
set_option maxHeartbeats 4000000 in
theorem wequalV (va vb : Value) (a b : Av) (w : World) (ha : ValV va a) (hb : ValV vb b) : Calls Tryz.prog 99 #[va, vb] w fun e w' => e = .returned (.bool (eqA a b)) ∧ Below w.heap.size w w' := by
  obtain ⟨na, rfl, h1⟩ := ha
  obtain ⟨nb, rfl, h2⟩ := hb
  have hal : ∀ o1 o2, Below w.heap.size w ((w.alloc o1).alloc o2) := fun o1 o2 => ((Below.refl _ _).alloc (Nat.le_refl _) _).alloc (by simp) _
  have HAL := Lib.hid hal
  by_cases q1 : a.t = 1
  · have HE : Hid ((FloatKind.f64.format.order na nb == some .eq) = eqA a b) := Lib.hid (by unfold eqA; rw [if_pos q1, isEq_order, h1, h2])
    rw [q1]
    generalize b.t = tb
    clear h1 h2 hal q1
    go_enter Tryz.func99, Tryz.ntmps99
    go_wp2
    go_ret
    exact ⟨ret_bool HE.out, HAL.out _ _⟩
  · by_cases q2 : a.t = 2
    · have HE : Hid (((tx a.s).toList == (tx b.s).toList) = eqA a b) := Lib.hid (by unfold eqA; rw [if_neg q1, if_pos q2, tx_toList, tx_toList]; by_cases e : a.s = b.s <;> simp [e])
      rw [q2]
      generalize b.t = tb
      clear h1 h2 hal q1 q2
      go_enter Tryz.func99, Tryz.ntmps99
      go_wp2
      go_ret
      exact ⟨ret_bool HE.out, HAL.out _ _⟩
    · have HE : Hid ((a.b == b.b) = eqA a b) := Lib.hid (by unfold eqA; rw [if_neg q1, if_neg q2])
      have i1 : ((a.t : Int) == 1) = false := by simp; omega
      have i2 : ((a.t : Int) == 2) = false := by simp; omega
      generalize a.t = ta at q1 q2 i1 i2 ⊢
      generalize b.t = tb
      clear h1 h2 hal
      go_enter Tryz.func99, Tryz.ntmps99
      go_wp2
      go_ret
      exact ⟨ret_bool HE.out, HAL.out _ _⟩
end Go.Proofs.YtfalcmbjjlgoaaaGreatDoor
/- Walks: made (over the Ops told apart), bound (printed by gen_s6.py). -/
namespace Go.Proofs.YtfalcmbjjlgoaaaGreatDoor
open Go.RowKit Go.Shelf
attribute [local go_sem] run_store_float
theorem TyV.agg {w : World} {v : Value} {L : List Nat} (h : TyV w v L) : ∃ x n c, v = .slice x n c := by
  obtain ⟨x, cap, rfl, _⟩ := h; exact ⟨_, _, _, rfl⟩
set_option maxRecDepth 100000 in
set_option maxHeartbeats 8000000 in
theorem wmade (op : Bs) (v : Value) (L : List Nat) (hL : L.length ≤ 1000000) (h2 : op = weq ∨ op = wne → L.length = 2) (w : World) (h : TyV w v L) : Calls Tryz.prog 46 #[.string (tx op), v] w fun e w' => e = .returned (.int .i64 (madeT op L : Nat)) ∧ Below w.heap.size w w' := by
  have HA1 : Hid (Calls Tryz.prog 64 #[v, .int .i64 1] w fun e w' => e = .returned (.bool (allT 1 L)) ∧ w = w') := Lib.hid (wallT v L 1 hL w h)
  have HA2 : Hid (Calls Tryz.prog 64 #[v, .int .i64 2] w fun e w' => e = .returned (.bool (allT 2 L)) ∧ w = w') := Lib.hid (wallT v L 2 hL w h)
  have HA3 : Hid (Calls Tryz.prog 64 #[v, .int .i64 3] w fun e w' => e = .returned (.bool (allT 3 L)) ∧ w = w') := Lib.hid (wallT v L 3 hL w h)
  have HG1 : Hid (∀ c W, Calls Tryz.prog 63 #[.int .i64 1, .bool c] W fun e w' => e = .returned (.int .i64 (giv 1 c : Nat)) ∧ W = w') := Lib.hid (fun c W => wgiven 1 c W)
  have HG3 : Hid (∀ c W, Calls Tryz.prog 63 #[.int .i64 3, .bool c] W fun e w' => e = .returned (.int .i64 (giv 3 c : Nat)) ∧ W = w') := Lib.hid (fun c W => wgiven 3 c W)
  have HV := Lib.hid h
  have HH2 := Lib.hid h2
  obtain ⟨x, n, cp, rfl⟩ := h.agg
  clear h h2 hL
  rcases opcases op with ⟨ho, b0, b1, b2, b3, b4, b5, b6, b7, b8, b9, b10, b11, b12, b13, b14, b15, b16, b17, b18, b19⟩ | ⟨ho, b0, b1, b2, b3, b4, b5, b6, b7, b8, b9, b10, b11, b12, b13, b14, b15, b16, b17, b18, b19⟩ | ⟨ho, b0, b1, b2, b3, b4, b5, b6, b7, b8, b9, b10, b11, b12, b13, b14, b15, b16, b17, b18, b19⟩ | ⟨ho, b0, b1, b2, b3, b4, b5, b6, b7, b8, b9, b10, b11, b12, b13, b14, b15, b16, b17, b18, b19⟩ | ⟨ho, b0, b1, b2, b3, b4, b5, b6, b7, b8, b9, b10, b11, b12, b13, b14, b15, b16, b17, b18, b19⟩ | ⟨ho, b0, b1, b2, b3, b4, b5, b6, b7, b8, b9, b10, b11, b12, b13, b14, b15, b16, b17, b18, b19⟩ | ⟨ho, b0, b1, b2, b3, b4, b5, b6, b7, b8, b9, b10, b11, b12, b13, b14, b15, b16, b17, b18, b19⟩ | ⟨ho, b0, b1, b2, b3, b4, b5, b6, b7, b8, b9, b10, b11, b12, b13, b14, b15, b16, b17, b18, b19⟩ | ⟨ho, b0, b1, b2, b3, b4, b5, b6, b7, b8, b9, b10, b11, b12, b13, b14, b15, b16, b17, b18, b19⟩ | ⟨ho, b0, b1, b2, b3, b4, b5, b6, b7, b8, b9, b10, b11, b12, b13, b14, b15, b16, b17, b18, b19⟩ | ⟨ho, b0, b1, b2, b3, b4, b5, b6, b7, b8, b9, b10, b11, b12, b13, b14, b15, b16, b17, b18, b19⟩ | ⟨ho, b0, b1, b2, b3, b4, b5, b6, b7, b8, b9, b10, b11, b12, b13, b14, b15, b16, b17, b18, b19⟩ | ⟨ho, b0, b1, b2, b3, b4, b5, b6, b7, b8, b9, b10, b11, b12, b13, b14, b15, b16, b17, b18, b19⟩ | ⟨ho, b0, b1, b2, b3, b4, b5, b6, b7, b8, b9, b10, b11, b12, b13, b14, b15, b16, b17, b18, b19⟩ | ⟨ho, b0, b1, b2, b3, b4, b5, b6, b7, b8, b9, b10, b11, b12, b13, b14, b15, b16, b17, b18, b19⟩ | ⟨ho, b0, b1, b2, b3, b4, b5, b6, b7, b8, b9, b10, b11, b12, b13, b14, b15, b16, b17, b18, b19⟩ | ⟨ho, b0, b1, b2, b3, b4, b5, b6, b7, b8, b9, b10, b11, b12, b13, b14, b15, b16, b17, b18, b19⟩ | ⟨ho, b0, b1, b2, b3, b4, b5, b6, b7, b8, b9, b10, b11, b12, b13, b14, b15, b16, b17, b18, b19⟩ | ⟨ho, b0, b1, b2, b3, b4, b5, b6, b7, b8, b9, b10, b11, b12, b13, b14, b15, b16, b17, b18, b19⟩ | ⟨ho, b0, b1, b2, b3, b4, b5, b6, b7, b8, b9, b10, b11, b12, b13, b14, b15, b16, b17, b18, b19⟩ | ⟨ho, b0, b1, b2, b3, b4, b5, b6, b7, b8, b9, b10, b11, b12, b13, b14, b15, b16, b17, b18, b19⟩
  · have hM : madeT op L = giv 3 (allT 3 L) := by subst ho; unfold madeT; rw [if_neg (by decide), if_neg (by decide), if_neg (by decide), if_neg (by decide), if_neg (by decide)]
    rw [hM]
    clear ho hM HH2 HV
    generalize tx op = T at *
    go_enter Tryz.func46, Tryz.ntmps46
    go_wp2_with (first | (go_at_call 64; refine (HA3.out).mono ?_; rintro e w1 ⟨rfl, rfl⟩) | (go_at_call 63; refine (HG3.out _ _).mono ?_; rintro e w1 ⟨rfl, rfl⟩))
    go_ret
    exact ⟨rfl, Below.refl _ _⟩
  · have hM : madeT op L = giv 3 (allT 3 L) := by subst ho; unfold madeT; rw [if_neg (by decide), if_neg (by decide), if_neg (by decide), if_neg (by decide), if_neg (by decide)]
    rw [hM]
    clear ho hM HH2 HV
    generalize tx op = T at *
    go_enter Tryz.func46, Tryz.ntmps46
    go_wp2_with (first | (go_at_call 64; refine (HA3.out).mono ?_; rintro e w1 ⟨rfl, rfl⟩) | (go_at_call 63; refine (HG3.out _ _).mono ?_; rintro e w1 ⟨rfl, rfl⟩))
    go_ret
    exact ⟨rfl, Below.refl _ _⟩
  · have hM : madeT op L = giv 3 (allT 3 L) := by subst ho; unfold madeT; rw [if_neg (by decide), if_neg (by decide), if_neg (by decide), if_neg (by decide), if_neg (by decide)]
    rw [hM]
    clear ho hM HH2 HV
    generalize tx op = T at *
    go_enter Tryz.func46, Tryz.ntmps46
    go_wp2_with (first | (go_at_call 64; refine (HA3.out).mono ?_; rintro e w1 ⟨rfl, rfl⟩) | (go_at_call 63; refine (HG3.out _ _).mono ?_; rintro e w1 ⟨rfl, rfl⟩))
    go_ret
    exact ⟨rfl, Below.refl _ _⟩
  · have hM : madeT op L = giv 3 (allT 3 L) := by subst ho; unfold madeT; rw [if_neg (by decide), if_neg (by decide), if_neg (by decide), if_neg (by decide), if_neg (by decide)]
    rw [hM]
    clear ho hM HH2 HV
    generalize tx op = T at *
    go_enter Tryz.func46, Tryz.ntmps46
    go_wp2_with (first | (go_at_call 64; refine (HA3.out).mono ?_; rintro e w1 ⟨rfl, rfl⟩) | (go_at_call 63; refine (HG3.out _ _).mono ?_; rintro e w1 ⟨rfl, rfl⟩))
    go_ret
    exact ⟨rfl, Below.refl _ _⟩
  · have hM : madeT op L = giv 1 (allT 1 L) := by subst ho; unfold madeT; rw [if_pos (by decide)]
    rw [hM]
    clear ho hM HH2 HV
    generalize tx op = T at *
    go_enter Tryz.func46, Tryz.ntmps46
    go_wp2_with (first | (go_at_call 64; refine (HA1.out).mono ?_; rintro e w1 ⟨rfl, rfl⟩) | (go_at_call 63; refine (HG1.out _ _).mono ?_; rintro e w1 ⟨rfl, rfl⟩))
    go_ret
    exact ⟨rfl, Below.refl _ _⟩
  · have hM : madeT op L = giv 1 (allT 2 L) := by subst ho; unfold madeT; rw [if_neg (by decide), if_pos (by decide)]
    rw [hM]
    clear ho hM HH2 HV
    generalize tx op = T at *
    go_enter Tryz.func46, Tryz.ntmps46
    go_wp2_with (first | (go_at_call 64; refine (HA2.out).mono ?_; rintro e w1 ⟨rfl, rfl⟩) | (go_at_call 63; refine (HG1.out _ _).mono ?_; rintro e w1 ⟨rfl, rfl⟩))
    go_ret
    exact ⟨rfl, Below.refl _ _⟩
  · have hM : madeT op L = giv 1 (allT 1 L) := by subst ho; unfold madeT; rw [if_pos (by decide)]
    rw [hM]
    clear ho hM HH2 HV
    generalize tx op = T at *
    go_enter Tryz.func46, Tryz.ntmps46
    go_wp2_with (first | (go_at_call 64; refine (HA1.out).mono ?_; rintro e w1 ⟨rfl, rfl⟩) | (go_at_call 63; refine (HG1.out _ _).mono ?_; rintro e w1 ⟨rfl, rfl⟩))
    go_ret
    exact ⟨rfl, Below.refl _ _⟩
  · have hM : madeT op L = giv 3 (allT 3 L) := by subst ho; unfold madeT; rw [if_neg (by decide), if_neg (by decide), if_neg (by decide), if_neg (by decide), if_neg (by decide)]
    rw [hM]
    clear ho hM HH2 HV
    generalize tx op = T at *
    go_enter Tryz.func46, Tryz.ntmps46
    go_wp2_with (first | (go_at_call 64; refine (HA3.out).mono ?_; rintro e w1 ⟨rfl, rfl⟩) | (go_at_call 63; refine (HG3.out _ _).mono ?_; rintro e w1 ⟨rfl, rfl⟩))
    go_ret
    exact ⟨rfl, Below.refl _ _⟩
  · have hM : madeT op L = giv 3 (allT 3 L) := by subst ho; unfold madeT; rw [if_neg (by decide), if_neg (by decide), if_neg (by decide), if_neg (by decide), if_neg (by decide)]
    rw [hM]
    clear ho hM HH2 HV
    generalize tx op = T at *
    go_enter Tryz.func46, Tryz.ntmps46
    go_wp2_with (first | (go_at_call 64; refine (HA3.out).mono ?_; rintro e w1 ⟨rfl, rfl⟩) | (go_at_call 63; refine (HG3.out _ _).mono ?_; rintro e w1 ⟨rfl, rfl⟩))
    go_ret
    exact ⟨rfl, Below.refl _ _⟩
  · have hM : madeT op L = giv 3 (allT 2 L) := by subst ho; unfold madeT; rw [if_neg (by decide), if_neg (by decide), if_neg (by decide), if_neg (by decide), if_pos (by decide)]
    rw [hM]
    clear ho hM HH2 HV
    generalize tx op = T at *
    go_enter Tryz.func46, Tryz.ntmps46
    go_wp2_with (first | (go_at_call 64; refine (HA2.out).mono ?_; rintro e w1 ⟨rfl, rfl⟩) | (go_at_call 63; refine (HG3.out _ _).mono ?_; rintro e w1 ⟨rfl, rfl⟩))
    go_ret
    exact ⟨rfl, Below.refl _ _⟩
  · have hM : madeT op L = giv 3 (L.getD 0 0 == L.getD 1 0) := by subst ho; unfold madeT; rw [if_neg (by decide), if_neg (by decide), if_neg (by decide), if_pos (by decide)]
    rw [hM]
    have hl : L.length = 2 := HH2.out (by subst ho; decide)
    obtain ⟨t0, t1, rfl⟩ : ∃ t0 t1, L = [t0, t1] := by
      match L, hl with
      | [t0, t1], _ => exact ⟨t0, t1, rfl⟩
    obtain ⟨x', cap, hv', hcap, hx, hc⟩ := HV.out
    cases hv'
    obtain ⟨a, rfl⟩ : ∃ a, x = some a := by
      cases x with
      | none => have := hx rfl; cases this
      | some a => exact ⟨a, rfl⟩
    have c0 := hc a rfl 0 t0 rfl
    have c1 := hc a rfl 1 t1 rfl
    rw [show a.add 0 = a from rfl] at c0
    have c1' : w.cell? ⟨a.block, a.off + 1, none⟩ = some (.int .i64 (t1 : Nat)) := by simpa [Addr.add] using c1
    have HEQ : ((t0 : Int) == (t1 : Int)) = (t0 == t1) := Bool.eq_iff_iff.2 (by rw [beq_iff_eq, beq_iff_eq]; omega)
    have HG4 : Hid (∀ W, Calls Tryz.prog 63 #[.int .i64 3, .bool ((t0 : Int) == (t1 : Int))] W fun e w' => e = .returned (.int .i64 (giv 3 (t0 == t1) : Nat)) ∧ W = w') := Lib.hid (fun W => by rw [HEQ]; exact wgiven 3 _ W)
    have HL2 : Hid (madeT op [t0, t1] = giv 3 (t0 == t1)) := Lib.hid hM
    show Calls Tryz.prog 46 #[.string (tx op), .slice (some a) 2 cp] w fun e w' => e = .returned (.int .i64 (giv 3 (t0 == t1) : Nat)) ∧ Below w.heap.size w w'
    clear ho hM hc hx c1 hl HEQ HV HH2 HA1 HA2 HA3 HG1 HG3 HL2 hcap
    generalize tx op = T at *
    go_enter Tryz.func46, Tryz.ntmps46
    go_wp2
    go_quiet ((go_at_call 63; exact quiet_eq (HG4.out _)))
    go_wp2
    go_ret
    exact ⟨rfl, ⟨rfl, rfl, rfl, Nat.le_refl _, fun _ _ => rfl⟩⟩
  · have hM : madeT op L = giv 3 (L.getD 0 0 == L.getD 1 0) := by subst ho; unfold madeT; rw [if_neg (by decide), if_neg (by decide), if_neg (by decide), if_pos (by decide)]
    rw [hM]
    have hl : L.length = 2 := HH2.out (by subst ho; decide)
    obtain ⟨t0, t1, rfl⟩ : ∃ t0 t1, L = [t0, t1] := by
      match L, hl with
      | [t0, t1], _ => exact ⟨t0, t1, rfl⟩
    obtain ⟨x', cap, hv', hcap, hx, hc⟩ := HV.out
    cases hv'
    obtain ⟨a, rfl⟩ : ∃ a, x = some a := by
      cases x with
      | none => have := hx rfl; cases this
      | some a => exact ⟨a, rfl⟩
    have c0 := hc a rfl 0 t0 rfl
    have c1 := hc a rfl 1 t1 rfl
    rw [show a.add 0 = a from rfl] at c0
    have c1' : w.cell? ⟨a.block, a.off + 1, none⟩ = some (.int .i64 (t1 : Nat)) := by simpa [Addr.add] using c1
    have HEQ : ((t0 : Int) == (t1 : Int)) = (t0 == t1) := Bool.eq_iff_iff.2 (by rw [beq_iff_eq, beq_iff_eq]; omega)
    have HG4 : Hid (∀ W, Calls Tryz.prog 63 #[.int .i64 3, .bool ((t0 : Int) == (t1 : Int))] W fun e w' => e = .returned (.int .i64 (giv 3 (t0 == t1) : Nat)) ∧ W = w') := Lib.hid (fun W => by rw [HEQ]; exact wgiven 3 _ W)
    have HL2 : Hid (madeT op [t0, t1] = giv 3 (t0 == t1)) := Lib.hid hM
    show Calls Tryz.prog 46 #[.string (tx op), .slice (some a) 2 cp] w fun e w' => e = .returned (.int .i64 (giv 3 (t0 == t1) : Nat)) ∧ Below w.heap.size w w'
    clear ho hM hc hx c1 hl HEQ HV HH2 HA1 HA2 HA3 HG1 HG3 HL2 hcap
    generalize tx op = T at *
    go_enter Tryz.func46, Tryz.ntmps46
    go_wp2
    go_quiet ((go_at_call 63; exact quiet_eq (HG4.out _)))
    go_wp2
    go_ret
    exact ⟨rfl, ⟨rfl, rfl, rfl, Nat.le_refl _, fun _ _ => rfl⟩⟩
  · have hM : madeT op L = giv 3 (allT 1 L) := by subst ho; unfold madeT; rw [if_neg (by decide), if_neg (by decide), if_pos (by decide)]
    rw [hM]
    clear ho hM HH2 HV
    generalize tx op = T at *
    go_enter Tryz.func46, Tryz.ntmps46
    go_wp2_with (first | (go_at_call 64; refine (HA1.out).mono ?_; rintro e w1 ⟨rfl, rfl⟩) | (go_at_call 63; refine (HG3.out _ _).mono ?_; rintro e w1 ⟨rfl, rfl⟩))
    go_ret
    exact ⟨rfl, Below.refl _ _⟩
  · have hM : madeT op L = giv 3 (allT 1 L) := by subst ho; unfold madeT; rw [if_neg (by decide), if_neg (by decide), if_pos (by decide)]
    rw [hM]
    clear ho hM HH2 HV
    generalize tx op = T at *
    go_enter Tryz.func46, Tryz.ntmps46
    go_wp2_with (first | (go_at_call 64; refine (HA1.out).mono ?_; rintro e w1 ⟨rfl, rfl⟩) | (go_at_call 63; refine (HG3.out _ _).mono ?_; rintro e w1 ⟨rfl, rfl⟩))
    go_ret
    exact ⟨rfl, Below.refl _ _⟩
  · have hM : madeT op L = giv 3 (allT 1 L) := by subst ho; unfold madeT; rw [if_neg (by decide), if_neg (by decide), if_pos (by decide)]
    rw [hM]
    clear ho hM HH2 HV
    generalize tx op = T at *
    go_enter Tryz.func46, Tryz.ntmps46
    go_wp2_with (first | (go_at_call 64; refine (HA1.out).mono ?_; rintro e w1 ⟨rfl, rfl⟩) | (go_at_call 63; refine (HG3.out _ _).mono ?_; rintro e w1 ⟨rfl, rfl⟩))
    go_ret
    exact ⟨rfl, Below.refl _ _⟩
  · have hM : madeT op L = giv 3 (allT 1 L) := by subst ho; unfold madeT; rw [if_neg (by decide), if_neg (by decide), if_pos (by decide)]
    rw [hM]
    clear ho hM HH2 HV
    generalize tx op = T at *
    go_enter Tryz.func46, Tryz.ntmps46
    go_wp2_with (first | (go_at_call 64; refine (HA1.out).mono ?_; rintro e w1 ⟨rfl, rfl⟩) | (go_at_call 63; refine (HG3.out _ _).mono ?_; rintro e w1 ⟨rfl, rfl⟩))
    go_ret
    exact ⟨rfl, Below.refl _ _⟩
  · have hM : madeT op L = giv 1 (allT 1 L) := by subst ho; unfold madeT; rw [if_pos (by decide)]
    rw [hM]
    clear ho hM HH2 HV
    generalize tx op = T at *
    go_enter Tryz.func46, Tryz.ntmps46
    go_wp2_with (first | (go_at_call 64; refine (HA1.out).mono ?_; rintro e w1 ⟨rfl, rfl⟩) | (go_at_call 63; refine (HG1.out _ _).mono ?_; rintro e w1 ⟨rfl, rfl⟩))
    go_ret
    exact ⟨rfl, Below.refl _ _⟩
  · have hM : madeT op L = giv 1 (allT 1 L) := by subst ho; unfold madeT; rw [if_pos (by decide)]
    rw [hM]
    clear ho hM HH2 HV
    generalize tx op = T at *
    go_enter Tryz.func46, Tryz.ntmps46
    go_wp2_with (first | (go_at_call 64; refine (HA1.out).mono ?_; rintro e w1 ⟨rfl, rfl⟩) | (go_at_call 63; refine (HG1.out _ _).mono ?_; rintro e w1 ⟨rfl, rfl⟩))
    go_ret
    exact ⟨rfl, Below.refl _ _⟩
  · have hM : madeT op L = giv 1 (allT 1 L) := by subst ho; unfold madeT; rw [if_pos (by decide)]
    rw [hM]
    clear ho hM HH2 HV
    generalize tx op = T at *
    go_enter Tryz.func46, Tryz.ntmps46
    go_wp2_with (first | (go_at_call 64; refine (HA1.out).mono ?_; rintro e w1 ⟨rfl, rfl⟩) | (go_at_call 63; refine (HG1.out _ _).mono ?_; rintro e w1 ⟨rfl, rfl⟩))
    go_ret
    exact ⟨rfl, Below.refl _ _⟩
  · have hM : madeT op L = giv 1 (allT 1 L) := by subst ho; unfold madeT; rw [if_pos (by decide)]
    rw [hM]
    clear ho hM HH2 HV
    generalize tx op = T at *
    go_enter Tryz.func46, Tryz.ntmps46
    go_wp2_with (first | (go_at_call 64; refine (HA1.out).mono ?_; rintro e w1 ⟨rfl, rfl⟩) | (go_at_call 63; refine (HG1.out _ _).mono ?_; rintro e w1 ⟨rfl, rfl⟩))
    go_ret
    exact ⟨rfl, Below.refl _ _⟩
  · have hM : madeT op L = giv 3 (allT 3 L) := made_else L ho
    rw [hM]
    clear ho hM HH2 HV
    generalize tx op = T at *
    go_enter Tryz.func46, Tryz.ntmps46
    go_wp2_with (first | (go_at_call 64; refine (HA3.out).mono ?_; rintro e w1 ⟨rfl, rfl⟩) | (go_at_call 63; refine (HG3.out _ _).mono ?_; rintro e w1 ⟨rfl, rfl⟩))
    go_ret
    exact ⟨rfl, Below.refl _ _⟩
end Go.Proofs.YtfalcmbjjlgoaaaGreatDoor
