/- Walks: the reference's num, sign, Same. -/
import Derived.Test.YtmhfnpabgkkjaaaS5
import Derived.Test.YtmhfnpabgkkjaaaQL
namespace Go.Proofs.Ytmhfnpabgkkjaaa
open Go.RowKit Go.Shelf Ieee
attribute [local go_sem] run_store_float
def oneB : Nat := 4607182418800017408
/-- Is a number that is 0 below 0: what 1 / x says. -/
def sgN (x : Nat) : Bool := match double.div oneB x with
  | some r => double.order r 0 == some .lt
  | none => false
def sameN (x y : Nat) : Bool :=
  if isNan x = true ∨ isNan y = true then isNan x && isNan y
  else (double.order x y == some .eq) && (!(double.order x 0 == some .eq) || sgN x == sgN y)
def sameV (a b : Vl) : Bool := if a.t ≠ b.t then false else if a.t = 1 then sameN a.n b.n else if a.t = 2 then decide (a.s = b.s) else if a.t = 3 then a.b == b.b else true
def vlV (a : Vl) : Value := .agg #[.int .i64 a.t, .float .f64 a.n, .string (tx a.s), .bool a.b]
theorem below_drewN {n : Nat} {a w : World} (h : Below n a w) (k : Nat) : Below n a (w.drewN k) := h.trans ⟨rfl, rfl, rfl, Nat.le_refl _, fun _ _ => rfl⟩
theorem order_self {x : Nat} (h : isNan x = false) : double.order x x = some .eq := by
  rw [order_val x x h h]
  simp [compare, compareOfLessAndEq]
theorem sameN_self (x : Nat) : sameN x x = true := by
  unfold sameN
  cases h : isNan x
  · rw [if_neg (by simp), order_self h]
    simp
  · rw [if_pos (.inl rfl)]; rfl
theorem sameN_fA {x y : Nat} (h : fA x = fA y) : sameN x y = true := by
  cases hx : isNan x
  · rw [fA_num hx] at h
    have hy : isNan y = false := by
      cases hy : isNan y
      · rfl
      · rw [fA_nan hy] at h; cases h
    rw [fA_num hy] at h
    cases h
    exact sameN_self x
  · rw [fA_nan hx] at h
    have hy : isNan y = true := by
      cases hy : isNan y
      · rw [fA_num hy] at h; cases h
      · rfl
    unfold sameN
    rw [if_pos (.inl hx), hx, hy]
    rfl
theorem div_one {x : Nat} (h : isNan x = false) : ∃ r, double.div oneB x = some r := by
  obtain ⟨m, i, hm, h1⟩ : ∃ m i, m ≠ 0 ∧ double.read oneB = .number (isNeg oneB) m i := by
    obtain ⟨m, i, h1, _, h2⟩ := read_fin oneB (by decide)
    refine ⟨m, i, fun e => ?_, h1⟩
    rw [e, Nat.zero_mul, ← valN_zero] at h2
    exact absurd (valN_inj h2) (by decide)
  unfold Format.div
  rw [h1]
  rcases read_num x h with ⟨n, j, q⟩ | q
  · rw [q]
    unfold Datum.quotient
    by_cases hn : n = 0
    · simp [hn, hm]
    · simp [hn]
  · rw [q]
    exact ⟨_, rfl⟩
set_option maxHeartbeats 1000000 in
theorem rsign (x : Nat) (h : isNan x = false) (w : World) : Calls Try.prog 11 #[.float .f64 x] w fun e w' => e = .returned (.bool (sgN x)) ∧ w = w' := by
  obtain ⟨r, hr⟩ := div_one h
  have hV : ∀ W, (binOp BinOp.quo 22 (.float .f64 4607182418800017408) (.float .f64 x)).run Try.prog W = .ok (.float .f64 r) W := fun W => run_float_arith W .quo 22 .f64 _ _ _ hr
  have HE : Hid ((FloatKind.f64.format.order r 0 == some .lt) = sgN x) := Lib.hid (by unfold sgN; rw [hr]; rfl)
  clear h hr
  go_enter Try.func11, Try.ntmps11
  go_wp2
  go_ret
  exact ⟨ret_bool HE.out, rfl⟩
set_option maxRecDepth 100000 in
set_option maxHeartbeats 8000000 in
theorem rSame (a b : Vl) (w : World) : Calls Try.prog 6 #[vlV a, vlV b] w fun e w' => e = .returned (.bool (sameV a b)) ∧ Below w.heap.size w w' := by
  obtain ⟨ta, na, sa, ba⟩ := a
  obtain ⟨tb, nb, sb, bb⟩ := b
  have HAL := Lib.hid (fun o1 o2 => ((Below.refl w.heap.size w).alloc (Nat.le_refl _) o1).alloc (by simp) o2)
  show Calls Try.prog 6 #[.agg #[.int .i64 ta, .float .f64 na, .string (tx sa), .bool ba], .agg #[.int .i64 tb, .float .f64 nb, .string (tx sb), .bool bb]] w _
  obtain ⟨R, hR⟩ : ∃ R, R = sameV ⟨ta, na, sa, ba⟩ ⟨tb, nb, sb, bb⟩ := ⟨_, rfl⟩
  rw [← hR]
  unfold sameV at hR
  simp only at hR
  by_cases ht : ta = tb
  · subst ht
    rw [if_neg (by simp)] at hR
    by_cases t1 : ta = 1
    · subst t1
      rw [if_pos rfl] at hR
      unfold sameN at hR
      cases hx : isNan na
      · have o1 : (FloatKind.f64.format.order na na != some .eq) = false := by rw [show FloatKind.f64.format = double from rfl, order_self hx]; rfl
        cases hy : isNan nb
        · have o2 : (FloatKind.f64.format.order nb nb != some .eq) = false := by rw [show FloatKind.f64.format = double from rfl, order_self hy]; rfl
          rw [if_neg (by simp [hx, hy])] at hR
          cases o3 : (FloatKind.f64.format.order na nb == some .eq)
          · have HR : Hid (R = false) := Lib.hid (by rw [hR, show (double.order na nb == some .eq) = false from o3]; rfl)
            clear hR hx hy
            go_enter Try.func6, Try.ntmps6
            go_wp2
            go_quiet (fail)
            go_wp2
            go_ret
            exact ⟨ret_bool HR.out.symm, below_drewN (HAL.out _ _) _⟩
          · cases o4 : (FloatKind.f64.format.order na 0 == some .eq)
            · have HR : Hid (R = true) := Lib.hid (by rw [hR, show (double.order na nb == some .eq) = true from o3, show (double.order na 0 == some .eq) = false from o4]; rfl)
              have o5 : (FloatKind.f64.format.order na 0 != some .eq) = true := by simp only [bne, o4]; rfl
              clear hR hx hy
              go_enter Try.func6, Try.ntmps6
              go_wp2
              go_quiet (fail)
              go_wp2
              go_ret
              exact ⟨ret_bool HR.out.symm, below_drewN (HAL.out _ _) _⟩
            · have HR : Hid (R = (sgN na == sgN nb)) := Lib.hid (by rw [hR, show (double.order na nb == some .eq) = true from o3, show (double.order na 0 == some .eq) = true from o4]; rfl)
              have o5 : (FloatKind.f64.format.order na 0 != some .eq) = false := by simp only [bne, o4]; rfl
              have HSA := Lib.hid (fun W => rsign na hx W)
              have HSB := Lib.hid (fun W => rsign nb hy W)
              clear hR hx hy
              go_enter Try.func6, Try.ntmps6
              go_wp2
              go_quiet ((first | (go_at_call 11; exact quiet_eq (HSA.out _)) | (go_at_call 11; exact quiet_eq (HSB.out _))))
              go_wp2
              go_ret
              exact ⟨ret_bool HR.out.symm, below_drewN (HAL.out _ _) _⟩
        · have o2 : (FloatKind.f64.format.order nb nb != some .eq) = true := by rw [show FloatKind.f64.format = double from rfl, order_nan nb nb (.inl hy)]; rfl
          rw [if_pos (.inr hy), hx] at hR
          have HR : Hid (R = false) := Lib.hid hR
          clear hR hx hy
          go_enter Try.func6, Try.ntmps6
          go_wp2
          go_ret
          exact ⟨ret_bool HR.out.symm, HAL.out _ _⟩
      · have o1 : (FloatKind.f64.format.order na na != some .eq) = true := by rw [show FloatKind.f64.format = double from rfl, order_nan na na (.inl hx)]; rfl
        rw [if_pos (.inl hx), hx] at hR
        cases hy : isNan nb
        · have o2 : (FloatKind.f64.format.order nb nb != some .eq) = false := by rw [show FloatKind.f64.format = double from rfl, order_self hy]; rfl
          have HR : Hid (R = false) := Lib.hid (by rw [hR, hy]; rfl)
          clear hR hx hy
          go_enter Try.func6, Try.ntmps6
          go_wp2
          go_ret
          exact ⟨ret_bool HR.out.symm, HAL.out _ _⟩
        · have o2 : (FloatKind.f64.format.order nb nb != some .eq) = true := by rw [show FloatKind.f64.format = double from rfl, order_nan nb nb (.inl hy)]; rfl
          have HR : Hid (R = true) := Lib.hid (by rw [hR, hy]; rfl)
          clear hR hx hy
          go_enter Try.func6, Try.ntmps6
          go_wp2
          go_ret
          exact ⟨ret_bool HR.out.symm, HAL.out _ _⟩
    · rw [if_neg t1] at hR
      have i1 : (ta == 1) = false := by simpa using t1
      by_cases t2 : ta = 2
      · subst t2
        rw [if_pos rfl] at hR
        have HR : Hid (R = ((tx sa).toList == (tx sb).toList)) := Lib.hid (by rw [hR, tx_toList, tx_toList]; by_cases e : sa = sb <;> simp [e])
        clear hR
        go_enter Try.func6, Try.ntmps6
        go_wp2
        go_ret
        exact ⟨ret_bool HR.out.symm, HAL.out _ _⟩
      · rw [if_neg t2] at hR
        have i2 : (ta == 2) = false := by simpa using t2
        by_cases t3 : ta = 3
        · subst t3
          rw [if_pos rfl] at hR
          have HR : Hid (R = (ba == bb)) := Lib.hid hR
          clear hR
          go_enter Try.func6, Try.ntmps6
          go_wp2
          go_ret
          exact ⟨ret_bool HR.out.symm, HAL.out _ _⟩
        · rw [if_neg t3] at hR
          have i3 : (ta == 3) = false := by simpa using t3
          have HR : Hid (R = true) := Lib.hid hR
          clear hR
          go_enter Try.func6, Try.ntmps6
          go_wp2
          go_ret
          exact ⟨ret_bool HR.out.symm, HAL.out _ _⟩
  · rw [if_pos ht] at hR
    have i1 : (ta != tb) = true := by simpa using ht
    have HR : Hid (R = false) := Lib.hid hR
    clear hR
    go_enter Try.func6, Try.ntmps6
    go_wp2
    go_ret
    exact ⟨ret_bool HR.out.symm, HAL.out _ _⟩
end Go.Proofs.Ytmhfnpabgkkjaaa
