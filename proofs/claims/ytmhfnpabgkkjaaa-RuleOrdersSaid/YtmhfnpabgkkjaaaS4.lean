/- Numbers up to which NaN they are: what the operations give, and what a NaN drawn from the tape is. -/
import Derived.Test.YtmhfnpabgkkjaaaS1
import Derived.Test.YtmhfnpabgkkjaaaH0
import Derived.Laws.FloatArith
namespace Go.Proofs.Ytmhfnpabgkkjaaa
open Go.RowKit Ieee
/-- The NaN that the tape gives. -/
def nanB (x y : Nat) (W : World) : Nat := (Question.nanBits .f64 x y).cut (W.tape W.drawn (.nanBits .f64 x y))
theorem nanB_nan (x y : Nat) (W : World) : isNan (nanB x y W) = true := by
  have key : ∀ t, isNan ((t % 2) * 2 ^ 63 + 0x7ff0000000000000 + 1 + (t / 2) % (2 ^ 52 - 1)) = true := fun t => by
    have e1 : (2 : Nat) ^ 63 = 9223372036854775808 := by decide
    have e2 : (2 : Nat) ^ 52 = 4503599627370496 := by decide
    unfold isNan rung
    rw [e1, e2]
    have h2 : (t / 2) % (4503599627370496 - 1) < 4503599627370495 := Nat.mod_lt _ (by decide)
    generalize (t / 2) % (4503599627370496 - 1) = q at h2 ⊢
    have h1 : t % 2 < 2 := Nat.mod_lt _ (by decide)
    generalize t % 2 = p at h1 ⊢
    exact decide_eq_true (by omega)
  exact key _
theorem run_float_nan (P : Program) (w : World) (op : BinOp) (hop : op = .add ∨ op = .sub ∨ op = .mul ∨ op = .quo) (t : TypeId) (x y : Nat) (h : floatBits op .f64 x y = none) : (binOp op t (.float .f64 x) (.float .f64 y)).run P w = .ok (.float .f64 (nanB x y w)) w.drew := by
  unfold floatBits at h
  rcases hop with rfl | rfl | rfl | rfl <;> simp only at h
  all_goals simp [binOp, Op.floatArith, h, choose, nanB]; rfl
theorem nan_write {d : Option Datum} {r : Nat} (h : d.map double.write = some r) (hd : ∀ s f, d ≠ some (.nan s f)) : isNan r = false := by
  cases d with
  | none => cases h
  | some d =>
    cases h
    cases d with
    | nan s f => exact absurd rfl (hd s f)
    | infinity s => exact nan_inf s
    | number s m i => exact nan_nearest s m i
theorem sum_nan (a b : Datum) (s : Bool) (f : Nat) : a.sum b ≠ some (.nan s f) := by
  cases a <;> cases b <;> simp [Datum.sum]
theorem product_nan (a b : Datum) (s : Bool) (f : Nat) : a.product b ≠ some (.nan s f) := by
  cases a <;> cases b <;> simp [Datum.product] <;> split <;> simp
theorem quotient_nan (k : Nat) (a b : Datum) (s : Bool) (f : Nat) : a.quotient k b ≠ some (.nan s f) := by
  cases a <;> cases b <;> simp [Datum.quotient]
  split
  · split <;> simp
  · simp
theorem bits_num {op : BinOp} {x y r : Nat} (h : floatBits op .f64 x y = some r) : isNan r = false := by
  unfold floatBits at h
  split at h
  · exact nan_write h (sum_nan _ _)
  · exact nan_write h (sum_nan _ _)
  · exact nan_write h (product_nan _ _)
  · exact nan_write h (quotient_nan _ _ _)
  · cases h
theorem nan_read {x : Nat} (h : isNan x = true) : ∃ s f, double.read x = .nan s f := by
  obtain ⟨f, hf⟩ := read_nan x (by simpa [isNan] using h)
  exact ⟨_, f, hf⟩
theorem bits_nan (op : BinOp) (x y : Nat) (h : isNan x = true ∨ isNan y = true) : floatBits op .f64 x y = none := by
  have k1 : ∀ d, (Datum.nan true 0).sum d = none := fun d => by cases d <;> rfl
  have hx : ∀ s f d, (Datum.nan s f).sum d = none ∧ (Datum.nan s f).product d = none ∧ ∀ k, (Datum.nan s f).quotient k d = none := fun s f d => by cases d <;> exact ⟨rfl, rfl, fun _ => rfl⟩
  have hy : ∀ s f d, (d : Datum).sum (Datum.nan s f) = none ∧ d.product (Datum.nan s f) = none ∧ ∀ k, d.quotient k (Datum.nan s f) = none := fun s f d => by cases d <;> exact ⟨rfl, rfl, fun _ => rfl⟩
  have hd : FloatKind.f64.format = double := rfl
  unfold floatBits
  rw [hd]
  rcases h with h | h
  · obtain ⟨s, f, hr⟩ := nan_read h
    cases op <;> simp only [Format.add, Format.sub, Format.mul, Format.div, hr] <;> first | rfl | (rw [(hx s f _).1]; rfl) | (rw [(hx s f _).2.1]; rfl) | (rw [(hx s f _).2.2]; rfl)
  · obtain ⟨s, f, hr⟩ := nan_read h
    cases op <;> simp only [Format.add, Format.sub, Format.mul, Format.div, hr, Datum.opposite] <;> first | rfl | (rw [(hy _ _ _).1]; rfl) | (rw [(hy _ _ _).2.1]; rfl) | (rw [(hy _ _ _).2.2]; rfl)
theorem fA_num {x : Nat} (h : isNan x = false) : fA x = some x := by unfold fA; rw [h]; rfl
theorem fA_nan {x : Nat} (h : isNan x = true) : fA x = none := by unfold fA; rw [h]; rfl
/-- What an operation gives, up to which NaN: its bits, or the tape's NaN. -/
theorem arA_bits (op : BinOp) (f : Nat → Nat → Option Nat) (hf : ∀ x y, floatBits op .f64 x y = f x y) (x y : Nat) : arA f (fA x) (fA y) = floatBits op .f64 x y := by
  cases hx : isNan x
  · cases hy : isNan y
    · rw [fA_num hx, fA_num hy, hf]; rfl
    · rw [fA_nan hy, bits_nan op x y (.inr hy)]
      cases fA x <;> rfl
  · rw [fA_nan hx, bits_nan op x y (.inl hx)]; rfl
theorem arA_some {op : BinOp} {f : Nat → Nat → Option Nat} (hf : ∀ x y, floatBits op .f64 x y = f x y) {x y r : Nat} (h : floatBits op .f64 x y = some r) : fA r = arA f (fA x) (fA y) := by
  rw [arA_bits op f hf, h, fA_num (bits_num h)]
theorem arA_none {op : BinOp} {f : Nat → Nat → Option Nat} (hf : ∀ x y, floatBits op .f64 x y = f x y) {x y : Nat} (W : World) (h : floatBits op .f64 x y = none) : fA (nanB x y W) = arA f (fA x) (fA y) := by
  rw [arA_bits op f hf, h, fA_nan (nanB_nan x y W)]
/-- A comparison, up to which NaN. -/
theorem cmpA_order (p : Ordering → Bool) (x y : Nat) : cmpA p (fA x) (fA y) = match double.order x y with | some c => p c | none => false := by
  cases hx : isNan x
  · cases hy : isNan y
    · rw [fA_num hx, fA_num hy]; rfl
    · rw [fA_nan hy, order_nan x y (.inr hy)]
      cases fA x <;> rfl
  · rw [fA_nan hx, order_nan x y (.inl hx)]; rfl
theorem rung_neg (x : Nat) : rung (x ^^^ 2 ^ 63) = rung x := by
  unfold rung
  apply Nat.eq_of_testBit_eq
  intro i
  simp only [Nat.testBit_mod_two_pow, Nat.testBit_xor, Nat.testBit_two_pow]
  by_cases h : i < 63
  · have : ¬ 63 = i := by omega
    simp [h, this]
  · simp [h]
theorem negA_neg (x : Nat) : fA (x ^^^ 2 ^ 63) = negA (fA x) := by
  have h : isNan (x ^^^ 2 ^ 63) = isNan x := by unfold isNan; rw [rung_neg]
  unfold fA
  rw [h]
  split <;> rfl
theorem absA_abs (x : Nat) : fA (x % 2 ^ 63) = absA (fA x) := by
  have h : isNan (x % 2 ^ 63) = isNan x := by unfold isNan rung; rw [Nat.mod_mod]
  unfold fA
  rw [h]
  split <;> rfl
end Go.Proofs.Ytmhfnpabgkkjaaa
