/- Own texts, merged: S4, S5, S6, QE. -/
import Derived.Laws.FloatArith
import Derived.Test.YtdomglkcfecnnaaGreatH0
import Derived.Test.YtdomglkcfecnnaaGreatMP24
import Derived.Test.YtdomglkcfecnnaaGreatMP31
import Derived.Test.YtdomglkcfecnnaaGreatMP32
/- Numbers up to which NaN they are: what the operations give, and what a NaN drawn from the tape is. -/
namespace Go.Proofs.YtdomglkcfecnnaaGreat
open Go.RowKit Ieee
/-- The NaN that the tape gives. -/
def nanB (x y : Nat) (W : World) : Nat := (Question.nanBits .f64 x y).cut (W.tape W.drawn (.nanBits .f64 x y))
theorem nanB_nan (x y : Nat) (W : World) : isNan (nanB x y W) = true := by
  have key : ∀ t, isNan ((t % 2) * 2 ^ 63 + 0x7ff0000000000000 + 1 + (t / 2) % (2 ^ 52 - 1)) = true := fun t => by
    have e1 : (2 : Nat) ^ 63 = 9223372036854775808 := by decide
    have e2 : (2 : Nat) ^ 52 = 4503599627370496 := by decide
    unfold isNan rung
    rw [e1, e2]
    have h2 : (t / 2) % (4503599627370496 - 1) < 4503599627370495 := Nat.mod_lt _ (by decide)
    generalize (t / 2) % (4503599627370496 - 1) = q at h2 ⊢
    have h1 : t % 2 < 2 := Nat.mod_lt _ (by decide)
    generalize t % 2 = p at h1 ⊢
    exact decide_eq_true (by omega)
  exact key _
theorem run_float_nan (P : Program) (w : World) (op : BinOp) (hop : op = .add ∨ op = .sub ∨ op = .mul ∨ op = .quo) (t : TypeId) (x y : Nat) (h : floatBits op .f64 x y = none) : (binOp op t (.float .f64 x) (.float .f64 y)).run P w = .ok (.float .f64 (nanB x y w)) w.drew := by
  unfold floatBits at h
  rcases hop with rfl | rfl | rfl | rfl <;> simp only at h
  all_goals simp [binOp, Op.floatArith, h, choose, nanB]; rfl
theorem nan_write {d : Option Datum} {r : Nat} (h : d.map double.write = some r) (hd : ∀ s f, d ≠ some (.nan s f)) : isNan r = false := by
  cases d with
  | none => cases h
  | some d =>
    cases h
    cases d with
    | nan s f => exact absurd rfl (hd s f)
    | infinity s => exact nan_inf s
    | number s m i => exact nan_nearest s m i
theorem sum_nan (a b : Datum) (s : Bool) (f : Nat) : a.sum b ≠ some (.nan s f) := by
  cases a <;> cases b <;> simp [Datum.sum]
theorem product_nan (a b : Datum) (s : Bool) (f : Nat) : a.product b ≠ some (.nan s f) := by
  cases a <;> cases b <;> simp [Datum.product] <;> split <;> simp
theorem quotient_nan (k : Nat) (a b : Datum) (s : Bool) (f : Nat) : a.quotient k b ≠ some (.nan s f) := by
  cases a <;> cases b <;> simp [Datum.quotient]
  split
  · split <;> simp
  · simp
theorem bits_num {op : BinOp} {x y r : Nat} (h : floatBits op .f64 x y = some r) : isNan r = false := by
  unfold floatBits at h
  split at h
  · exact nan_write h (sum_nan _ _)
  · exact nan_write h (sum_nan _ _)
  · exact nan_write h (product_nan _ _)
  · exact nan_write h (quotient_nan _ _ _)
  · cases h
theorem nan_read {x : Nat} (h : isNan x = true) : ∃ s f, double.read x = .nan s f := by
  obtain ⟨f, hf⟩ := read_nan x (by simpa [isNan] using h)
  exact ⟨_, f, hf⟩
theorem bits_nan (op : BinOp) (x y : Nat) (h : isNan x = true ∨ isNan y = true) : floatBits op .f64 x y = none := by
  have k1 : ∀ d, (Datum.nan true 0).sum d = none := fun d => by cases d <;> rfl
  have hx : ∀ s f d, (Datum.nan s f).sum d = none ∧ (Datum.nan s f).product d = none ∧ ∀ k, (Datum.nan s f).quotient k d = none := fun s f d => by cases d <;> exact ⟨rfl, rfl, fun _ => rfl⟩
  have hy : ∀ s f d, (d : Datum).sum (Datum.nan s f) = none ∧ d.product (Datum.nan s f) = none ∧ ∀ k, d.quotient k (Datum.nan s f) = none := fun s f d => by cases d <;> exact ⟨rfl, rfl, fun _ => rfl⟩
  have hd : FloatKind.f64.format = double := rfl
  unfold floatBits
  rw [hd]
  rcases h with h | h
  · obtain ⟨s, f, hr⟩ := nan_read h
    cases op <;> simp only [Format.add, Format.sub, Format.mul, Format.div, hr] <;> first | rfl | (rw [(hx s f _).1]; rfl) | (rw [(hx s f _).2.1]; rfl) | (rw [(hx s f _).2.2]; rfl)
  · obtain ⟨s, f, hr⟩ := nan_read h
    cases op <;> simp only [Format.add, Format.sub, Format.mul, Format.div, hr, Datum.opposite] <;> first | rfl | (rw [(hy _ _ _).1]; rfl) | (rw [(hy _ _ _).2.1]; rfl) | (rw [(hy _ _ _).2.2]; rfl)
theorem fA_num {x : Nat} (h : isNan x = false) : fA x = some x := by unfold fA; rw [h]; rfl
theorem fA_nan {x : Nat} (h : isNan x = true) : fA x = none := by unfold fA; rw [h]; rfl
/-- What an operation gives, up to which NaN: its bits, or the tape's NaN. -/
theorem arA_bits (op : BinOp) (f : Nat → Nat → Option Nat) (hf : ∀ x y, floatBits op .f64 x y = f x y) (x y : Nat) : arA f (fA x) (fA y) = floatBits op .f64 x y := by
  cases hx : isNan x
  · cases hy : isNan y
    · rw [fA_num hx, fA_num hy, hf]; rfl
    · rw [fA_nan hy, bits_nan op x y (.inr hy)]
      cases fA x <;> rfl
  · rw [fA_nan hx, bits_nan op x y (.inl hx)]; rfl
theorem arA_some {op : BinOp} {f : Nat → Nat → Option Nat} (hf : ∀ x y, floatBits op .f64 x y = f x y) {x y r : Nat} (h : floatBits op .f64 x y = some r) : fA r = arA f (fA x) (fA y) := by
  rw [arA_bits op f hf, h, fA_num (bits_num h)]
theorem arA_none {op : BinOp} {f : Nat → Nat → Option Nat} (hf : ∀ x y, floatBits op .f64 x y = f x y) {x y : Nat} (W : World) (h : floatBits op .f64 x y = none) : fA (nanB x y W) = arA f (fA x) (fA y) := by
  rw [arA_bits op f hf, h, fA_nan (nanB_nan x y W)]
/-- A comparison, up to which NaN. -/
theorem cmpA_order (p : Ordering → Bool) (x y : Nat) : cmpA p (fA x) (fA y) = match double.order x y with | some c => p c | none => false := by
  cases hx : isNan x
  · cases hy : isNan y
    · rw [fA_num hx, fA_num hy]; rfl
    · rw [fA_nan hy, order_nan x y (.inr hy)]
      cases fA x <;> rfl
  · rw [fA_nan hx, order_nan x y (.inl hx)]; rfl
theorem rung_neg (x : Nat) : rung (x ^^^ 2 ^ 63) = rung x := by
  unfold rung
  apply Nat.eq_of_testBit_eq
  intro i
  simp only [Nat.testBit_mod_two_pow, Nat.testBit_xor, Nat.testBit_two_pow]
  by_cases h : i < 63
  · have : ¬ 63 = i := by omega
    simp [h, this]
  · simp [h]
theorem negA_neg (x : Nat) : fA (x ^^^ 2 ^ 63) = negA (fA x) := by
  have h : isNan (x ^^^ 2 ^ 63) = isNan x := by unfold isNan; rw [rung_neg]
  unfold fA
  rw [h]
  split <;> rfl
theorem absA_abs (x : Nat) : fA (x % 2 ^ 63) = absA (fA x) := by
  have h : isNan (x % 2 ^ 63) = isNan x := by unfold isNan rung; rw [Nat.mod_mod]
  unfold fA
  rw [h]
  split <;> rfl
end Go.Proofs.YtdomglkcfecnnaaGreat
/- Values in memory; walks: num, truth, equal, Abs. -/
namespace Go.Proofs.YtdomglkcfecnnaaGreat
open Go.RowKit Go.Shelf Ieee
attribute [local go_sem] run_store_float
/-- A value as a Go value. -/
def ValV (v : Value) (a : Av) : Prop := ∃ n, v = .agg #[.int .i64 a.t, .float .f64 n, .string (tx a.s), .bool a.b] ∧ fA n = a.n
/-- What a call that gives a value ends in. -/
def VEnd (a : Av) (w : World) (e : Ending) (w' : World) : Prop := Below w.heap.size w w' ∧ ∃ v, e = .returned v ∧ ValV v a
theorem val_res {fn : Func} {p : Tmp} (h : fn.results = #[.cell p 94]) (tmps : Array Value) (w : World) (g : Nat) (v0 v1 v2 v3 : Value) (hp : tmps.getD p undef = .pointer (some ⟨g, 0, none⟩))
    (hg : w.heap[g]? = some (.cells #[v0, v1, v2, v3] 94 (0, 0))) : (results fn tmps).run Tryz.prog w = .ok (.agg #[v0, v1, v2, v3]) w :=
  results_cell h tmps w g 94 _ _ _ hp hg Tryz.underlying94 rfl (by kernel_rfl)
theorem fA_zero : fA 0 = some 0 := by decide
theorem isEq_order (x y : Nat) : (FloatKind.f64.format.order x y == some .eq) = cmpA isEq (fA x) (fA y) := by
  rw [cmpA_order]
  show (double.order x y == some .eq) = _
  cases double.order x y with
  | none => rfl
  | some c => cases c <;> rfl
theorem isLt_order (x y : Nat) : (FloatKind.f64.format.order x y == some .lt) = cmpA isLt (fA x) (fA y) := by
  rw [cmpA_order]
  show (double.order x y == some .lt) = _
  cases double.order x y with
  | none => rfl
  | some c => cases c <;> rfl
theorem isGt_order (x y : Nat) : (FloatKind.f64.format.order x y == some .gt) = cmpA isGt (fA x) (fA y) := by
  rw [cmpA_order]
  show (double.order x y == some .gt) = _
  cases double.order x y with
  | none => rfl
  | some c => cases c <;> rfl
theorem isLe_order (x y : Nat) : (FloatKind.f64.format.order x y == some .lt || FloatKind.f64.format.order x y == some .eq) = cmpA isLe (fA x) (fA y) := by
  rw [cmpA_order]
  show (double.order x y == some .lt || double.order x y == some .eq) = _
  cases double.order x y with
  | none => rfl
  | some c => cases c <;> rfl
theorem isGe_order (x y : Nat) : (FloatKind.f64.format.order x y == some .gt || FloatKind.f64.format.order x y == some .eq) = cmpA isGe (fA x) (fA y) := by
  rw [cmpA_order]
  show (double.order x y == some .gt || double.order x y == some .eq) = _
  cases double.order x y with
  | none => rfl
  | some c => cases c <;> rfl
end Go.Proofs.YtdomglkcfecnnaaGreat
/- Walks: made (over the Ops told apart), bound (printed by gen_s6.py). -/
namespace Go.Proofs.YtdomglkcfecnnaaGreat
open Go.RowKit Go.Shelf
attribute [local go_sem] run_store_float
theorem TyV.agg {w : World} {v : Value} {L : List Nat} (h : TyV w v L) : ∃ x n c, v = .slice x n c := by
  obtain ⟨x, cap, rfl, _⟩ := h; exact ⟨_, _, _, rfl⟩
set_option maxRecDepth 100000 in
set_option maxHeartbeats 8000000 in
theorem wmade (op : Bs) (v : Value) (L : List Nat) (hL : L.length ≤ 1000000) (h2 : op = weq ∨ op = wne → L.length = 2) (w : World) (h : TyV w v L) : Calls Tryz.prog 86 #[.string (tx op), v] w fun e w' => e = .returned (.int .i64 (madeT op L : Nat)) ∧ Below w.heap.size w w' := by
  have HA1 : Hid (Calls Tryz.prog 109 #[v, .int .i64 1] w fun e w' => e = .returned (.bool (allT 1 L)) ∧ w = w') := Lib.hid (wallT v L 1 hL w h)
  have HA2 : Hid (Calls Tryz.prog 109 #[v, .int .i64 2] w fun e w' => e = .returned (.bool (allT 2 L)) ∧ w = w') := Lib.hid (wallT v L 2 hL w h)
  have HA3 : Hid (Calls Tryz.prog 109 #[v, .int .i64 3] w fun e w' => e = .returned (.bool (allT 3 L)) ∧ w = w') := Lib.hid (wallT v L 3 hL w h)
  have HG1 : Hid (∀ c W, Calls Tryz.prog 108 #[.int .i64 1, .bool c] W fun e w' => e = .returned (.int .i64 (giv 1 c : Nat)) ∧ W = w') := Lib.hid (fun c W => wgiven 1 c W)
  have HG3 : Hid (∀ c W, Calls Tryz.prog 108 #[.int .i64 3, .bool c] W fun e w' => e = .returned (.int .i64 (giv 3 c : Nat)) ∧ W = w') := Lib.hid (fun c W => wgiven 3 c W)
  have HV := Lib.hid h
  have HH2 := Lib.hid h2
  obtain ⟨x, n, cp, rfl⟩ := h.agg
  clear h h2 hL
  rcases opcases op with ⟨ho, b0, b1, b2, b3, b4, b5, b6, b7, b8, b9, b10, b11, b12, b13, b14, b15, b16, b17, b18, b19⟩ | ⟨ho, b0, b1, b2, b3, b4, b5, b6, b7, b8, b9, b10, b11, b12, b13, b14, b15, b16, b17, b18, b19⟩ | ⟨ho, b0, b1, b2, b3, b4, b5, b6, b7, b8, b9, b10, b11, b12, b13, b14, b15, b16, b17, b18, b19⟩ | ⟨ho, b0, b1, b2, b3, b4, b5, b6, b7, b8, b9, b10, b11, b12, b13, b14, b15, b16, b17, b18, b19⟩ | ⟨ho, b0, b1, b2, b3, b4, b5, b6, b7, b8, b9, b10, b11, b12, b13, b14, b15, b16, b17, b18, b19⟩ | ⟨ho, b0, b1, b2, b3, b4, b5, b6, b7, b8, b9, b10, b11, b12, b13, b14, b15, b16, b17, b18, b19⟩ | ⟨ho, b0, b1, b2, b3, b4, b5, b6, b7, b8, b9, b10, b11, b12, b13, b14, b15, b16, b17, b18, b19⟩ | ⟨ho, b0, b1, b2, b3, b4, b5, b6, b7, b8, b9, b10, b11, b12, b13, b14, b15, b16, b17, b18, b19⟩ | ⟨ho, b0, b1, b2, b3, b4, b5, b6, b7, b8, b9, b10, b11, b12, b13, b14, b15, b16, b17, b18, b19⟩ | ⟨ho, b0, b1, b2, b3, b4, b5, b6, b7, b8, b9, b10, b11, b12, b13, b14, b15, b16, b17, b18, b19⟩ | ⟨ho, b0, b1, b2, b3, b4, b5, b6, b7, b8, b9, b10, b11, b12, b13, b14, b15, b16, b17, b18, b19⟩ | ⟨ho, b0, b1, b2, b3, b4, b5, b6, b7, b8, b9, b10, b11, b12, b13, b14, b15, b16, b17, b18, b19⟩ | ⟨ho, b0, b1, b2, b3, b4, b5, b6, b7, b8, b9, b10, b11, b12, b13, b14, b15, b16, b17, b18, b19⟩ | ⟨ho, b0, b1, b2, b3, b4, b5, b6, b7, b8, b9, b10, b11, b12, b13, b14, b15, b16, b17, b18, b19⟩ | ⟨ho, b0, b1, b2, b3, b4, b5, b6, b7, b8, b9, b10, b11, b12, b13, b14, b15, b16, b17, b18, b19⟩ | ⟨ho, b0, b1, b2, b3, b4, b5, b6, b7, b8, b9, b10, b11, b12, b13, b14, b15, b16, b17, b18, b19⟩ | ⟨ho, b0, b1, b2, b3, b4, b5, b6, b7, b8, b9, b10, b11, b12, b13, b14, b15, b16, b17, b18, b19⟩ | ⟨ho, b0, b1, b2, b3, b4, b5, b6, b7, b8, b9, b10, b11, b12, b13, b14, b15, b16, b17, b18, b19⟩ | ⟨ho, b0, b1, b2, b3, b4, b5, b6, b7, b8, b9, b10, b11, b12, b13, b14, b15, b16, b17, b18, b19⟩ | ⟨ho, b0, b1, b2, b3, b4, b5, b6, b7, b8, b9, b10, b11, b12, b13, b14, b15, b16, b17, b18, b19⟩ | ⟨ho, b0, b1, b2, b3, b4, b5, b6, b7, b8, b9, b10, b11, b12, b13, b14, b15, b16, b17, b18, b19⟩
  · have hM : madeT op L = giv 3 (allT 3 L) := by subst ho; unfold madeT; rw [if_neg (by decide), if_neg (by decide), if_neg (by decide), if_neg (by decide), if_neg (by decide)]
    rw [hM]
    clear ho hM HH2 HV
    generalize tx op = T at *
    go_enter Tryz.func86, Tryz.ntmps86
    go_wp2_with (first | (go_at_call 109; refine (HA3.out).mono ?_; rintro e w1 ⟨rfl, rfl⟩) | (go_at_call 108; refine (HG3.out _ _).mono ?_; rintro e w1 ⟨rfl, rfl⟩))
    go_ret
    exact ⟨rfl, Below.refl _ _⟩
  · have hM : madeT op L = giv 3 (allT 3 L) := by subst ho; unfold madeT; rw [if_neg (by decide), if_neg (by decide), if_neg (by decide), if_neg (by decide), if_neg (by decide)]
    rw [hM]
    clear ho hM HH2 HV
    generalize tx op = T at *
    go_enter Tryz.func86, Tryz.ntmps86
    go_wp2_with (first | (go_at_call 109; refine (HA3.out).mono ?_; rintro e w1 ⟨rfl, rfl⟩) | (go_at_call 108; refine (HG3.out _ _).mono ?_; rintro e w1 ⟨rfl, rfl⟩))
    go_ret
    exact ⟨rfl, Below.refl _ _⟩
  · have hM : madeT op L = giv 3 (allT 3 L) := by subst ho; unfold madeT; rw [if_neg (by decide), if_neg (by decide), if_neg (by decide), if_neg (by decide), if_neg (by decide)]
    rw [hM]
    clear ho hM HH2 HV
    generalize tx op = T at *
    go_enter Tryz.func86, Tryz.ntmps86
    go_wp2_with (first | (go_at_call 109; refine (HA3.out).mono ?_; rintro e w1 ⟨rfl, rfl⟩) | (go_at_call 108; refine (HG3.out _ _).mono ?_; rintro e w1 ⟨rfl, rfl⟩))
    go_ret
    exact ⟨rfl, Below.refl _ _⟩
  · have hM : madeT op L = giv 3 (allT 3 L) := by subst ho; unfold madeT; rw [if_neg (by decide), if_neg (by decide), if_neg (by decide), if_neg (by decide), if_neg (by decide)]
    rw [hM]
    clear ho hM HH2 HV
    generalize tx op = T at *
    go_enter Tryz.func86, Tryz.ntmps86
    go_wp2_with (first | (go_at_call 109; refine (HA3.out).mono ?_; rintro e w1 ⟨rfl, rfl⟩) | (go_at_call 108; refine (HG3.out _ _).mono ?_; rintro e w1 ⟨rfl, rfl⟩))
    go_ret
    exact ⟨rfl, Below.refl _ _⟩
  · have hM : madeT op L = giv 1 (allT 1 L) := by subst ho; unfold madeT; rw [if_pos (by decide)]
    rw [hM]
    clear ho hM HH2 HV
    generalize tx op = T at *
    go_enter Tryz.func86, Tryz.ntmps86
    go_wp2_with (first | (go_at_call 109; refine (HA1.out).mono ?_; rintro e w1 ⟨rfl, rfl⟩) | (go_at_call 108; refine (HG1.out _ _).mono ?_; rintro e w1 ⟨rfl, rfl⟩))
    go_ret
    exact ⟨rfl, Below.refl _ _⟩
  · have hM : madeT op L = giv 1 (allT 2 L) := by subst ho; unfold madeT; rw [if_neg (by decide), if_pos (by decide)]
    rw [hM]
    clear ho hM HH2 HV
    generalize tx op = T at *
    go_enter Tryz.func86, Tryz.ntmps86
    go_wp2_with (first | (go_at_call 109; refine (HA2.out).mono ?_; rintro e w1 ⟨rfl, rfl⟩) | (go_at_call 108; refine (HG1.out _ _).mono ?_; rintro e w1 ⟨rfl, rfl⟩))
    go_ret
    exact ⟨rfl, Below.refl _ _⟩
  · have hM : madeT op L = giv 1 (allT 1 L) := by subst ho; unfold madeT; rw [if_pos (by decide)]
    rw [hM]
    clear ho hM HH2 HV
    generalize tx op = T at *
    go_enter Tryz.func86, Tryz.ntmps86
    go_wp2_with (first | (go_at_call 109; refine (HA1.out).mono ?_; rintro e w1 ⟨rfl, rfl⟩) | (go_at_call 108; refine (HG1.out _ _).mono ?_; rintro e w1 ⟨rfl, rfl⟩))
    go_ret
    exact ⟨rfl, Below.refl _ _⟩
  · have hM : madeT op L = giv 3 (allT 3 L) := by subst ho; unfold madeT; rw [if_neg (by decide), if_neg (by decide), if_neg (by decide), if_neg (by decide), if_neg (by decide)]
    rw [hM]
    clear ho hM HH2 HV
    generalize tx op = T at *
    go_enter Tryz.func86, Tryz.ntmps86
    go_wp2_with (first | (go_at_call 109; refine (HA3.out).mono ?_; rintro e w1 ⟨rfl, rfl⟩) | (go_at_call 108; refine (HG3.out _ _).mono ?_; rintro e w1 ⟨rfl, rfl⟩))
    go_ret
    exact ⟨rfl, Below.refl _ _⟩
  · have hM : madeT op L = giv 3 (allT 3 L) := by subst ho; unfold madeT; rw [if_neg (by decide), if_neg (by decide), if_neg (by decide), if_neg (by decide), if_neg (by decide)]
    rw [hM]
    clear ho hM HH2 HV
    generalize tx op = T at *
    go_enter Tryz.func86, Tryz.ntmps86
    go_wp2_with (first | (go_at_call 109; refine (HA3.out).mono ?_; rintro e w1 ⟨rfl, rfl⟩) | (go_at_call 108; refine (HG3.out _ _).mono ?_; rintro e w1 ⟨rfl, rfl⟩))
    go_ret
    exact ⟨rfl, Below.refl _ _⟩
  · have hM : madeT op L = giv 3 (allT 2 L) := by subst ho; unfold madeT; rw [if_neg (by decide), if_neg (by decide), if_neg (by decide), if_neg (by decide), if_pos (by decide)]
    rw [hM]
    clear ho hM HH2 HV
    generalize tx op = T at *
    go_enter Tryz.func86, Tryz.ntmps86
    go_wp2_with (first | (go_at_call 109; refine (HA2.out).mono ?_; rintro e w1 ⟨rfl, rfl⟩) | (go_at_call 108; refine (HG3.out _ _).mono ?_; rintro e w1 ⟨rfl, rfl⟩))
    go_ret
    exact ⟨rfl, Below.refl _ _⟩
  · have hM : madeT op L = giv 3 (L.getD 0 0 == L.getD 1 0) := by subst ho; unfold madeT; rw [if_neg (by decide), if_neg (by decide), if_neg (by decide), if_pos (by decide)]
    rw [hM]
    have hl : L.length = 2 := HH2.out (by subst ho; decide)
    obtain ⟨t0, t1, rfl⟩ : ∃ t0 t1, L = [t0, t1] := by
      match L, hl with
      | [t0, t1], _ => exact ⟨t0, t1, rfl⟩
    obtain ⟨x', cap, hv', hcap, hx, hc⟩ := HV.out
    cases hv'
    obtain ⟨a, rfl⟩ : ∃ a, x = some a := by
      cases x with
      | none => have := hx rfl; cases this
      | some a => exact ⟨a, rfl⟩
    have c0 := hc a rfl 0 t0 rfl
    have c1 := hc a rfl 1 t1 rfl
    rw [show a.add 0 = a from rfl] at c0
    have c1' : w.cell? ⟨a.block, a.off + 1, none⟩ = some (.int .i64 (t1 : Nat)) := by simpa [Addr.add] using c1
    have HEQ : ((t0 : Int) == (t1 : Int)) = (t0 == t1) := Bool.eq_iff_iff.2 (by rw [beq_iff_eq, beq_iff_eq]; omega)
    have HG4 : Hid (∀ W, Calls Tryz.prog 108 #[.int .i64 3, .bool ((t0 : Int) == (t1 : Int))] W fun e w' => e = .returned (.int .i64 (giv 3 (t0 == t1) : Nat)) ∧ W = w') := Lib.hid (fun W => by rw [HEQ]; exact wgiven 3 _ W)
    have HL2 : Hid (madeT op [t0, t1] = giv 3 (t0 == t1)) := Lib.hid hM
    show Calls Tryz.prog 86 #[.string (tx op), .slice (some a) 2 cp] w fun e w' => e = .returned (.int .i64 (giv 3 (t0 == t1) : Nat)) ∧ Below w.heap.size w w'
    clear ho hM hc hx c1 hl HEQ HV HH2 HA1 HA2 HA3 HG1 HG3 HL2 hcap
    generalize tx op = T at *
    go_enter Tryz.func86, Tryz.ntmps86
    go_wp2
    go_quiet ((go_at_call 108; exact quiet_eq (HG4.out _)))
    go_wp2
    go_ret
    exact ⟨rfl, ⟨rfl, rfl, rfl, Nat.le_refl _, fun _ _ => rfl⟩⟩
  · have hM : madeT op L = giv 3 (L.getD 0 0 == L.getD 1 0) := by subst ho; unfold madeT; rw [if_neg (by decide), if_neg (by decide), if_neg (by decide), if_pos (by decide)]
    rw [hM]
    have hl : L.length = 2 := HH2.out (by subst ho; decide)
    obtain ⟨t0, t1, rfl⟩ : ∃ t0 t1, L = [t0, t1] := by
      match L, hl with
      | [t0, t1], _ => exact ⟨t0, t1, rfl⟩
    obtain ⟨x', cap, hv', hcap, hx, hc⟩ := HV.out
    cases hv'
    obtain ⟨a, rfl⟩ : ∃ a, x = some a := by
      cases x with
      | none => have := hx rfl; cases this
      | some a => exact ⟨a, rfl⟩
    have c0 := hc a rfl 0 t0 rfl
    have c1 := hc a rfl 1 t1 rfl
    rw [show a.add 0 = a from rfl] at c0
    have c1' : w.cell? ⟨a.block, a.off + 1, none⟩ = some (.int .i64 (t1 : Nat)) := by simpa [Addr.add] using c1
    have HEQ : ((t0 : Int) == (t1 : Int)) = (t0 == t1) := Bool.eq_iff_iff.2 (by rw [beq_iff_eq, beq_iff_eq]; omega)
    have HG4 : Hid (∀ W, Calls Tryz.prog 108 #[.int .i64 3, .bool ((t0 : Int) == (t1 : Int))] W fun e w' => e = .returned (.int .i64 (giv 3 (t0 == t1) : Nat)) ∧ W = w') := Lib.hid (fun W => by rw [HEQ]; exact wgiven 3 _ W)
    have HL2 : Hid (madeT op [t0, t1] = giv 3 (t0 == t1)) := Lib.hid hM
    show Calls Tryz.prog 86 #[.string (tx op), .slice (some a) 2 cp] w fun e w' => e = .returned (.int .i64 (giv 3 (t0 == t1) : Nat)) ∧ Below w.heap.size w w'
    clear ho hM hc hx c1 hl HEQ HV HH2 HA1 HA2 HA3 HG1 HG3 HL2 hcap
    generalize tx op = T at *
    go_enter Tryz.func86, Tryz.ntmps86
    go_wp2
    go_quiet ((go_at_call 108; exact quiet_eq (HG4.out _)))
    go_wp2
    go_ret
    exact ⟨rfl, ⟨rfl, rfl, rfl, Nat.le_refl _, fun _ _ => rfl⟩⟩
  · have hM : madeT op L = giv 3 (allT 1 L) := by subst ho; unfold madeT; rw [if_neg (by decide), if_neg (by decide), if_pos (by decide)]
    rw [hM]
    clear ho hM HH2 HV
    generalize tx op = T at *
    go_enter Tryz.func86, Tryz.ntmps86
    go_wp2_with (first | (go_at_call 109; refine (HA1.out).mono ?_; rintro e w1 ⟨rfl, rfl⟩) | (go_at_call 108; refine (HG3.out _ _).mono ?_; rintro e w1 ⟨rfl, rfl⟩))
    go_ret
    exact ⟨rfl, Below.refl _ _⟩
  · have hM : madeT op L = giv 3 (allT 1 L) := by subst ho; unfold madeT; rw [if_neg (by decide), if_neg (by decide), if_pos (by decide)]
    rw [hM]
    clear ho hM HH2 HV
    generalize tx op = T at *
    go_enter Tryz.func86, Tryz.ntmps86
    go_wp2_with (first | (go_at_call 109; refine (HA1.out).mono ?_; rintro e w1 ⟨rfl, rfl⟩) | (go_at_call 108; refine (HG3.out _ _).mono ?_; rintro e w1 ⟨rfl, rfl⟩))
    go_ret
    exact ⟨rfl, Below.refl _ _⟩
  · have hM : madeT op L = giv 3 (allT 1 L) := by subst ho; unfold madeT; rw [if_neg (by decide), if_neg (by decide), if_pos (by decide)]
    rw [hM]
    clear ho hM HH2 HV
    generalize tx op = T at *
    go_enter Tryz.func86, Tryz.ntmps86
    go_wp2_with (first | (go_at_call 109; refine (HA1.out).mono ?_; rintro e w1 ⟨rfl, rfl⟩) | (go_at_call 108; refine (HG3.out _ _).mono ?_; rintro e w1 ⟨rfl, rfl⟩))
    go_ret
    exact ⟨rfl, Below.refl _ _⟩
  · have hM : madeT op L = giv 3 (allT 1 L) := by subst ho; unfold madeT; rw [if_neg (by decide), if_neg (by decide), if_pos (by decide)]
    rw [hM]
    clear ho hM HH2 HV
    generalize tx op = T at *
    go_enter Tryz.func86, Tryz.ntmps86
    go_wp2_with (first | (go_at_call 109; refine (HA1.out).mono ?_; rintro e w1 ⟨rfl, rfl⟩) | (go_at_call 108; refine (HG3.out _ _).mono ?_; rintro e w1 ⟨rfl, rfl⟩))
    go_ret
    exact ⟨rfl, Below.refl _ _⟩
  · have hM : madeT op L = giv 1 (allT 1 L) := by subst ho; unfold madeT; rw [if_pos (by decide)]
    rw [hM]
    clear ho hM HH2 HV
    generalize tx op = T at *
    go_enter Tryz.func86, Tryz.ntmps86
    go_wp2_with (first | (go_at_call 109; refine (HA1.out).mono ?_; rintro e w1 ⟨rfl, rfl⟩) | (go_at_call 108; refine (HG1.out _ _).mono ?_; rintro e w1 ⟨rfl, rfl⟩))
    go_ret
    exact ⟨rfl, Below.refl _ _⟩
  · have hM : madeT op L = giv 1 (allT 1 L) := by subst ho; unfold madeT; rw [if_pos (by decide)]
    rw [hM]
    clear ho hM HH2 HV
    generalize tx op = T at *
    go_enter Tryz.func86, Tryz.ntmps86
    go_wp2_with (first | (go_at_call 109; refine (HA1.out).mono ?_; rintro e w1 ⟨rfl, rfl⟩) | (go_at_call 108; refine (HG1.out _ _).mono ?_; rintro e w1 ⟨rfl, rfl⟩))
    go_ret
    exact ⟨rfl, Below.refl _ _⟩
  · have hM : madeT op L = giv 1 (allT 1 L) := by subst ho; unfold madeT; rw [if_pos (by decide)]
    rw [hM]
    clear ho hM HH2 HV
    generalize tx op = T at *
    go_enter Tryz.func86, Tryz.ntmps86
    go_wp2_with (first | (go_at_call 109; refine (HA1.out).mono ?_; rintro e w1 ⟨rfl, rfl⟩) | (go_at_call 108; refine (HG1.out _ _).mono ?_; rintro e w1 ⟨rfl, rfl⟩))
    go_ret
    exact ⟨rfl, Below.refl _ _⟩
  · have hM : madeT op L = giv 1 (allT 1 L) := by subst ho; unfold madeT; rw [if_pos (by decide)]
    rw [hM]
    clear ho hM HH2 HV
    generalize tx op = T at *
    go_enter Tryz.func86, Tryz.ntmps86
    go_wp2_with (first | (go_at_call 109; refine (HA1.out).mono ?_; rintro e w1 ⟨rfl, rfl⟩) | (go_at_call 108; refine (HG1.out _ _).mono ?_; rintro e w1 ⟨rfl, rfl⟩))
    go_ret
    exact ⟨rfl, Below.refl _ _⟩
  · have hM : madeT op L = giv 3 (allT 3 L) := made_else L ho
    rw [hM]
    clear ho hM HH2 HV
    generalize tx op = T at *
    go_enter Tryz.func86, Tryz.ntmps86
    go_wp2_with (first | (go_at_call 109; refine (HA3.out).mono ?_; rintro e w1 ⟨rfl, rfl⟩) | (go_at_call 108; refine (HG3.out _ _).mono ?_; rintro e w1 ⟨rfl, rfl⟩))
    go_ret
    exact ⟨rfl, Below.refl _ _⟩
end Go.Proofs.YtdomglkcfecnnaaGreat
/- Walks: named with len, abs, has. -/
namespace Go.Proofs.YtdomglkcfecnnaaGreat
open Go.RowKit Go.Shelf
attribute [local go_sem] run_store_float
set_option maxRecDepth 100000 in
set_option maxHeartbeats 4000000 in
theorem wnamed_one (V : Bs → Nat) (s : Bs) (ok : Bool) (hs : s.length ≤ 1000000) (n : Nat) (H : ∀ k, k ≤ n → PC V s ok 83 .or 11 k) (x : Bs) (hx : x = wlen ∨ x = wabs) (r : Nat) (ts : List Tok) (w : World) (hn : 12 * ts.length ≤ n + 1) (hne : ts ≠ []) (hst : St r s ok ts w) :
    Calls Tryz.prog 166 #[.pointer (some ⟨r, 0, none⟩), .string (tx x)] w (PEnd r s ok (namedP ok (P V ok n .or) ts x) w) := by
  have HI := Lib.hid (RI.start (v0 := .string ⟨#[]⟩) (v1 := .float .f64 0) (v2 := .string ⟨#[]⟩) (v3 := .slice none 0 0) hst)
  have HV : Hid (namedP ok (P V ok n .or) ts x = match adv ok ts with | none => none | some r => match inside ok (P V ok n .or) r with | none => none | some (a, r') => some (one x a, r')) := Lib.hid (by
    unfold namedP
    rw [if_neg (by rcases hx with rfl | rfl <;> decide)]
    cases adv ok ts with
    | none => rfl
    | some r => simp only; rw [if_pos hx]; rfl)
  obtain ⟨res, hres⟩ : ∃ y, y = namedP ok (P V ok n .or) ts x := ⟨_, rfl⟩
  rw [← hres] at HV ⊢
  have HA := Lib.hid (fun W h => wadv r s ok ts hs hne W h)
  have HIN := Lib.hid (fun t1 (W : World) h1 h => winside_step V s ok hs n H r t1 W h1 h)
  have HN := Lib.hid hn
  have HX := Lib.hid hx
  have b1 : ((tx x).toList == [111, 114]) = false := tx_ne (by rcases hx with rfl | rfl <;> decide)
  have b2 : ((tx x).toList == [97, 110, 100]) = false := tx_ne (by rcases hx with rfl | rfl <;> decide)
  have b3 : ((tx x).toList == [110, 111, 116]) = false := tx_ne (by rcases hx with rfl | rfl <;> decide)
  have hb : ((tx x).toList == [108, 101, 110]) = true ∨ (((tx x).toList == [108, 101, 110]) = false ∧ ((tx x).toList == [97, 98, 115]) = true) := by
    rcases hx with rfl | rfl
    · exact .inl (tx_same wlen)
    · exact .inr ⟨tx_ne (by decide), tx_same wabs⟩
  clear hst hres hx hne hs H hn
  go_enter Tryz.func166, Tryz.ntmps166
  have hq : ∀ K : Prop, ((((tx x).toList == [108, 101, 110]) = true → K) → (((tx x).toList == [108, 101, 110]) = false → ((tx x).toList == [97, 98, 115]) = true → K) → K) := fun K h1 h2 => hb.elim h1 (fun h => h2 h.1 h.2)
  clear hb
  refine hq _ (fun b4 => ?_) (fun b4 b5 => ?_)
  all_goals
    clear hq
    go_wp2_with (first | (go_at_call 82; fail))
    clear b1 b2 b3 b4
    try clear b5
    generalize w.alloc (.cells #[.string ⟨#[]⟩, .float .f64 0, .string ⟨#[]⟩, .slice none 0 0] 119) = W0 at HI ⊢
    refine (HA.out W0 HI.out.st).mono ?_
    rintro e w3 ⟨hb3, ⟨h1, rfl⟩ | ⟨t1, h1, rfl, hst3⟩⟩
    · have HB := Lib.hid (And.intro hb3 h1)
      clear hb3 h1
      go_wp2
      exact ⟨rfl, HI.out.bt.trans HB.out.1, .inl ⟨by rw [HV.out, HB.out.2], rfl⟩⟩
    have HI3 := Lib.hid (HI.out.but hb3 hst3)
    have HT := Lib.hid h1
    have HLT := Lib.hid (adv_len h1).1
    clear hb3 h1 hst3
    go_wp2_with (first | (go_at_call 167; fail))
    refine (HIN.out t1 _ (by have := HN.out; have := HLT.out; omega) HI3.out.st).mono ?_
    rintro e w2 ⟨hb2, ⟨h1, rfl⟩ | ⟨a, ts1, v, h1, rfl, hv, hst1⟩⟩
    · have HB := Lib.hid (And.intro hb2 h1)
      clear hb2 h1
      go_wp2
      exact ⟨rfl, HI3.out.bt.trans HB.out.1, .inl ⟨by rw [HV.out, HT.out]; simp only; rw [HB.out.2], rfl⟩⟩
    have HI2 := Lib.hid (HI3.out.but hb2 hst1)
    have HB := Lib.hid (And.intro hv h1)
    have HL0 := Lib.hid HI3.out.lt0
    clear hb2 h1 hv hst1
    go_wp2_with (first | (go_at_call 146; fail))
    refine (wsingle (fun b => w.heap.size ≤ b ∧ b ≠ w.heap.size) x v a _ ?_ ?_).mono ?_
    · intro b hb; have h1 := HI2.out.lt0; have h2 := HI2.out.bt.size; show _ ∧ _; omega
    · exact HB.out.1.sub (fun b h _ => by have h1 := HI3.out.bt.size; have h2 := HL0.out; have h3 : w3.heap.size ≤ b := h; show _ ∧ _; omega)
    rintro e w6 ⟨v6, rfl, hv6, hb6⟩
    have HI6 := Lib.hid (HI2.out.below hb6)
    have HV6 := Lib.hid hv6
    obtain ⟨o1, n1, s1, x1, l1, c1, rfl⟩ := hv6.agg
    obtain ⟨z0, z1, z2, z3, hz⟩ := HI6.out.res
    have HZ := Lib.hid hz
    obtain ⟨b0, b1, b2, b3, bf⟩ := hz.cells
    have f0 := bf 0
    have f1 := bf 1
    have f2 := bf 2
    have f3 := bf 3
    clear hz bf hv6 hb6
    go_wp2
    rw [HV.out, HT.out]
    simp only
    rw [HB.out.2]
    exact bodyPost_ret (node_res rfl _ _ w.heap.size _ _ _ _ rfl HZ.out.put.heap) rfl (RI.done HI6.out HV6.out)
set_option maxRecDepth 100000 in
set_option maxHeartbeats 4000000 in
theorem wnamed_has (V : Bs → Nat) (s : Bs) (ok : Bool) (hs : s.length ≤ 1000000) (n : Nat) (H : ∀ k, k ≤ n → PC V s ok 83 .or 11 k) (r : Nat) (ts : List Tok) (w : World) (hn : 12 * ts.length ≤ n + 1) (hne : ts ≠ []) (hst : St r s ok ts w) :
    Calls Tryz.prog 166 #[.pointer (some ⟨r, 0, none⟩), .string (tx whas)] w (PEnd r s ok (namedP ok (P V ok n .or) ts whas) w) := by
  have HI := Lib.hid (RI.start (v0 := .string ⟨#[]⟩) (v1 := .float .f64 0) (v2 := .string ⟨#[]⟩) (v3 := .slice none 0 0) hst)
  have HV : Hid (namedP ok (P V ok n .or) ts whas = match adv ok ts with | none => none | some r => hasP ok (P V ok n .or) r) := Lib.hid (by
    unfold namedP
    rw [if_neg (by decide)]
    cases adv ok ts with
    | none => rfl
    | some r => simp only; rw [if_neg (by decide), if_pos trivial])
  unfold hasP at HV
  obtain ⟨res, hres⟩ : ∃ y, y = namedP ok (P V ok n .or) ts whas := ⟨_, rfl⟩
  rw [← hres] at HV ⊢
  have HA := Lib.hid (fun W h => wadv r s ok ts hs hne W h)
  have HH := Lib.hid H
  have HM1 : Hid (MustC r s ok ⟨#[40]⟩ [40]) := Lib.hid (fun ts W h => wmust r s ok ts [40] hs W h)
  have HM2 : Hid (MustC r s ok ⟨#[44]⟩ [44]) := Lib.hid (fun ts W h => wmust r s ok ts [44] hs W h)
  have HM3 : Hid (MustC r s ok ⟨#[41]⟩ [41]) := Lib.hid (fun ts W h => wmust r s ok ts [41] hs W h)
  have HN := Lib.hid hn
  have b1 : ((tx whas).toList == [111, 114]) = false := tx_ne (by decide)
  have b2 : ((tx whas).toList == [97, 110, 100]) = false := tx_ne (by decide)
  have b3 : ((tx whas).toList == [110, 111, 116]) = false := tx_ne (by decide)
  have b4 : ((tx whas).toList == [108, 101, 110]) = false := tx_ne (by decide)
  have b5 : ((tx whas).toList == [97, 98, 115]) = false := tx_ne (by decide)
  have b6 := tx_same whas
  clear hst hres hne hs H hn
  obtain ⟨wh, hwh⟩ : ∃ y, y = whas := ⟨_, rfl⟩
  rw [← hwh] at HV b1 b2 b3 b4 b5 b6 ⊢
  have HWH := Lib.hid hwh
  have b7 : ((tx wh).toList == [104, 97, 115]) = true := by rw [← b6, hwh]; rfl
  clear hwh b6
  go_enter Tryz.func166, Tryz.ntmps166
  go_wp2_with (first | (go_at_call 82; fail))
  clear b1 b2 b3 b4 b5 b7
  generalize w.alloc (.cells #[.string ⟨#[]⟩, .float .f64 0, .string ⟨#[]⟩, .slice none 0 0] 119) = W0 at HI ⊢
  refine (HA.out W0 HI.out.st).mono ?_
  rintro e w3 ⟨hb3, ⟨h1, rfl⟩ | ⟨t1, h1, rfl, hst3⟩⟩
  · have HB := Lib.hid (And.intro hb3 h1)
    clear hb3 h1
    go_wp2
    exact ⟨rfl, HI.out.bt.trans HB.out.1, .inl ⟨by rw [HV.out, HB.out.2], rfl⟩⟩
  have HI3 := Lib.hid (HI.out.but hb3 hst3)
  have HV3 := Lib.hid HV.out
  rw [h1] at HV3
  have HLT := Lib.hid (adv_len h1).1
  clear hb3 h1 hst3 HV
  go_wp2_with (first | (go_at_call 168; fail))
  refine (HM1.out t1 _ HI3.out.st).mono ?_
  rintro e w4 ⟨hb3, ⟨h1, rfl⟩ | ⟨t2, h1, rfl, hst3⟩⟩
  · have HB := Lib.hid (And.intro hb3 h1)
    clear hb3 h1
    go_wp2
    exact ⟨rfl, HI3.out.bt.trans HB.out.1, .inl ⟨by rw [HV3.out, HB.out.2], rfl⟩⟩
  have HI4 := Lib.hid (HI3.out.but hb3 hst3)
  have HV4 := Lib.hid HV3.out
  simp only [h1] at HV4
  have HLT4 := Lib.hid (must_len h1).1
  clear hb3 h1 hst3 HV3
  go_wp2_with (first | (go_at_call 83; fail))
  refine (HH.out n (Nat.le_refl _) r t2 _ (by have := HN.out; have := HLT.out; have := HLT4.out; omega) HI4.out.st).mono ?_
  rintro e w5 ⟨hb2, ⟨h1, rfl⟩ | ⟨a, t3, v, h1, rfl, hv, hst1⟩⟩
  · have HB := Lib.hid (And.intro hb2 h1)
    clear hb2 h1
    go_wp2
    exact ⟨rfl, HI4.out.bt.trans HB.out.1, .inl ⟨by rw [HV4.out, HB.out.2], rfl⟩⟩
  have HI5 := Lib.hid (HI4.out.but hb2 hst1)
  have HL0 := Lib.hid HI4.out.lt0
  have HV5 := Lib.hid HV4.out
  simp only [h1] at HV5
  have HLT5 := Lib.hid (P_len V ok n .or t2 a t3 h1).1
  have HND := Lib.hid (hv.sub (B := fun b => w.heap.size ≤ b ∧ b ≠ w.heap.size ∧ b < w5.heap.size) (fun b h h0 => by have h1 := HI4.out.bt.size; have h2 := HL0.out; have h3 : w4.heap.size ≤ b := h; show _ ∧ _ ∧ _; omega))
  obtain ⟨o1, n1, s1, x1, l1, c1, rfl⟩ := hv.agg
  clear hb2 h1 hv hst1 HV4
  go_wp2_with (first | (go_at_call 168; fail))
  have HI6 : Hid (RI w r s ok w.heap.size t3 (w5.alloc (.cells #[.string o1, .float .f64 n1, .string s1, .slice x1 l1 c1] 119))) := Lib.hid (HI5.out.below ((Below.refl _ _).alloc (Nat.le_refl _) _))
  have HND6 := Lib.hid (HND.out.below ((Below.refl _ _).alloc (Nat.le_refl _) (.cells #[.string o1, .float .f64 n1, .string s1, .slice x1 l1 c1] 119)))
  have HG6 : Hid (NB (w5.alloc (.cells #[.string o1, .float .f64 n1, .string s1, .slice x1 l1 c1] 119)) w5.heap.size (.agg #[.string o1, .float .f64 n1, .string s1, .slice x1 l1 c1])) := Lib.hid ⟨_, _, _, _, rfl, heap_alloc_new _ _⟩
  have HLG := Lib.hid (show r < w5.heap.size from HI5.out.st.lt)
  have HL5 := Lib.hid HI5.out.lt0
  generalize w5.alloc (.cells #[.string o1, .float .f64 n1, .string s1, .slice x1 l1 c1] 119) = W6 at HI6 HND6 HG6 ⊢
  generalize w5.heap.size = g1 at HND6 HG6 HLG HL5 ⊢
  refine (HM2.out t3 W6 HI6.out.st).mono ?_
  rintro e w7 ⟨hb3, ⟨h1, rfl⟩ | ⟨t4, h1, rfl, hst3⟩⟩
  · have HB := Lib.hid (And.intro hb3 h1)
    clear hb3 h1
    go_wp2
    exact ⟨rfl, HI6.out.bt.trans HB.out.1, .inl ⟨by rw [HV5.out, HB.out.2], rfl⟩⟩
  have HI7 := Lib.hid (HI6.out.but hb3 hst3)
  have HND7 := Lib.hid (HND6.out.but (by have := HI6.out.lt; intro h; omega) hb3)
  have HG7 := Lib.hid (HG6.out.but hb3 (by have := HLG.out; omega))
  have HV7 := Lib.hid HV5.out
  simp only [h1] at HV7
  have HLT7 := Lib.hid (must_len h1).1
  clear hb3 h1 hst3 HV5
  go_wp2_with (first | (go_at_call 83; fail))
  refine (HH.out n (Nat.le_refl _) r t4 _ (by have := HN.out; have := HLT.out; have := HLT4.out; have := HLT5.out; have := HLT7.out; omega) HI7.out.st).mono ?_
  rintro e w8 ⟨hb2, ⟨h1, rfl⟩ | ⟨b, t5, v, h1, rfl, hv, hst1⟩⟩
  · have HB := Lib.hid (And.intro hb2 h1)
    clear hb2 h1
    go_wp2
    exact ⟨rfl, HI7.out.bt.trans HB.out.1, .inl ⟨by rw [HV7.out, HB.out.2], rfl⟩⟩
  have HI8 := Lib.hid (HI7.out.but hb2 hst1)
  have HL07 := Lib.hid HI7.out.lt0
  have HG7l := Lib.hid HG7.out.lt
  have HND8 := Lib.hid ((HND7.out.but (by have := HI6.out.lt; intro h; omega) hb2).sub (B := fun b => w.heap.size ≤ b ∧ b ≠ w.heap.size) (fun b h _ => ⟨h.1, h.2.1⟩))
  have HG8 := Lib.hid (HG7.out.but hb2 (by have := HLG.out; omega))
  have HV8 := Lib.hid HV7.out
  simp only [h1] at HV8
  have HNE8 := Lib.hid (hv.sub (B := fun b => w.heap.size ≤ b ∧ b ≠ w.heap.size) (fun b h h0 => by have h1 := HI7.out.bt.size; have h2 := HL07.out; have h3 : w7.heap.size ≤ b := h; show _ ∧ _; omega))
  obtain ⟨o2, n2, s2, x2, l2, c2, rfl⟩ := hv.agg
  clear hb2 h1 hv hst1 HV7
  go_wp2_with (first | (go_at_call 168; fail))
  have HI9 : Hid (RI w r s ok w.heap.size t5 (w8.alloc (.cells #[.string o2, .float .f64 n2, .string s2, .slice x2 l2 c2] 119))) := Lib.hid (HI8.out.below ((Below.refl _ _).alloc (Nat.le_refl _) _))
  have HND9 := Lib.hid (HND8.out.below ((Below.refl _ _).alloc (Nat.le_refl _) (.cells #[.string o2, .float .f64 n2, .string s2, .slice x2 l2 c2] 119)))
  have HNE9 := Lib.hid (HNE8.out.below ((Below.refl _ _).alloc (Nat.le_refl _) (.cells #[.string o2, .float .f64 n2, .string s2, .slice x2 l2 c2] 119)))
  have HG9 := Lib.hid (HG8.out.below ((Below.refl _ _).alloc (Nat.le_refl _) (.cells #[.string o2, .float .f64 n2, .string s2, .slice x2 l2 c2] 119)))
  have HGB9 : Hid (NB (w8.alloc (.cells #[.string o2, .float .f64 n2, .string s2, .slice x2 l2 c2] 119)) w8.heap.size (.agg #[.string o2, .float .f64 n2, .string s2, .slice x2 l2 c2])) := Lib.hid ⟨_, _, _, _, rfl, heap_alloc_new _ _⟩
  have HLG8 := Lib.hid (show r < w8.heap.size from HI8.out.st.lt)
  generalize w8.alloc (.cells #[.string o2, .float .f64 n2, .string s2, .slice x2 l2 c2] 119) = W9 at HI9 HND9 HNE9 HG9 HGB9 ⊢
  generalize w8.heap.size = g2 at HGB9 HLG8 ⊢
  refine (HM3.out t5 W9 HI9.out.st).mono ?_
  rintro e wA ⟨hb3, ⟨h1, rfl⟩ | ⟨t6, h1, rfl, hst3⟩⟩
  · have HB := Lib.hid (And.intro hb3 h1)
    clear hb3 h1
    go_wp2
    exact ⟨rfl, HI9.out.bt.trans HB.out.1, .inl ⟨by rw [HV8.out, HB.out.2], rfl⟩⟩
  have HIA := Lib.hid (HI9.out.but hb3 hst3)
  have HNDA := Lib.hid (HND9.out.but (by have := HI9.out.lt; intro h; omega) hb3)
  have HNEA := Lib.hid (HNE9.out.but (by have := HI9.out.lt; intro h; omega) hb3)
  have HGA := HG9.out.but hb3 (by have := HLG.out; omega)
  have HGBA := HGB9.out.but hb3 (by have := HLG8.out; omega)
  have HVA := Lib.hid HV8.out
  simp only [h1] at HVA
  obtain ⟨a0, a1, a2, a3, _⟩ := HGA.cells
  obtain ⟨d0, d1, d2, d3, _⟩ := HGBA.cells
  clear hb3 h1 hst3 HV8 HGA HGBA
  go_wp2_with (first | (go_at_call 106; fail))
  refine (wpair (fun b => w.heap.size ≤ b ∧ b ≠ w.heap.size) wh _ _ a b _ ?_ HNDA.out HNEA.out).mono ?_
  · intro b hb; have h1 := HIA.out.lt0; have h2 := HIA.out.bt.size; show _ ∧ _; omega
  rintro e wB ⟨vB, rfl, hvB, hbB⟩
  have HIB := Lib.hid (HIA.out.below hbB)
  have HVB := Lib.hid hvB
  obtain ⟨o3, n3, s3, x3, l3, c3, rfl⟩ := hvB.agg
  obtain ⟨z0, z1, z2, z3, hz⟩ := HIB.out.res
  have HZ := Lib.hid hz
  obtain ⟨b0, b1, b2, b3, bf⟩ := hz.cells
  have f0 := bf 0
  have f1 := bf 1
  have f2 := bf 2
  have f3 := bf 3
  clear hz bf hvB hbB a0 a1 a2 a3 d0 d1 d2 d3
  go_wp2
  rw [HVA.out]
  refine bodyPost_ret (node_res rfl _ _ w.heap.size _ _ _ _ rfl HZ.out.put.heap) rfl (RI.done HIB.out ?_)
  exact HVB.out
end Go.Proofs.YtdomglkcfecnnaaGreat
