/- Walk: Same, and the reference's Same in plain terms. -/
import Derived.Test.YtmhfnpabgkkjaaaRM
import Derived.Test.YtmhfnpabgkkjaaaSA
namespace Go.Proofs.Ytmhfnpabgkkjaaa
open Go.RowKit Go.Shelf Ieee
attribute [local go_sem] run_store_float
def psameN (x y : Nat) : Bool := if isNan x = true ∨ isNan y = true then isNan x && isNan y else ((x : Int) == (y : Int))
def psameV (a b : Vl) : Bool := if a.t ≠ b.t then false else if a.t = 1 then psameN a.n b.n else if a.t = 2 then decide (a.s = b.s) else if a.t = 3 then a.b == b.b else true
theorem psame_is {x y : Nat} (hx : x < 2 ^ 64) (hy : y < 2 ^ 64) : psameN x y = sameN x y := by
  unfold psameN
  by_cases hn : isNan x = true ∨ isNan y = true
  · unfold sameN
    rw [if_pos hn, if_pos hn]
  · rw [if_neg hn]
    by_cases e : x = y
    · subst e
      rw [sameN_self]
      simp
    · have h1 : isNan x = false := by cases h : isNan x <;> simp_all
      have h2 : isNan y = false := by cases h : isNan y <;> simp_all
      have h3 : ((x : Int) == (y : Int)) = false := by simpa using (show ¬ ((x : Int) = (y : Int)) by omega)
      rw [h3]
      by_cases hs : sv x = sv y
      · have hr : rung x = rung y ∧ (isNeg x = isNeg y ∨ valN (rung x) = 0) := by
          unfold sv at hs
          cases p : isNeg x <;> cases q : isNeg y <;> simp only [p, q, if_true, Bool.false_eq_true, if_false] at hs
          · exact ⟨valN_inj (by omega), .inl rfl⟩
          · exact ⟨valN_inj (by omega), .inr (by omega)⟩
          · exact ⟨valN_inj (by omega), .inr (by omega)⟩
          · exact ⟨valN_inj (by omega), .inl rfl⟩
        obtain ⟨hr, hz⟩ := hr
        have hxe : x = 0 ∧ y = 2 ^ 63 ∨ x = 2 ^ 63 ∧ y = 0 := by
          rcases hz with hz | hz
          · exfalso
            unfold isNeg at hz
            unfold rung at hr
            have c1 : (x / 2 ^ 63 % 2 == 1) = decide (x / 2 ^ 63 % 2 = 1) := rfl
            have c2 : (y / 2 ^ 63 % 2 == 1) = decide (y / 2 ^ 63 % 2 = 1) := rfl
            rw [c1, c2, decide_eq_decide] at hz
            omega
          · have h0 : rung x = 0 := valN_inj (hz.trans valN_zero.symm)
            rw [h0] at hr
            unfold rung at h0 hr
            omega
        rcases hxe with ⟨rfl, rfl⟩ | ⟨rfl, rfl⟩
        · decide +kernel
        · decide +kernel
      · unfold sameN
        rw [if_neg hn, order_val x y h1 h2]
        have : (some (compare (sv x) (sv y)) == some Ordering.eq) = false := by
          have : compare (sv x) (sv y) ≠ .eq := by rw [ne_eq, Int.compare_eq_eq]; exact hs
          cases hc : compare (sv x) (sv y) <;> simp_all
        rw [this]
        rfl
theorem psameV_is {a b : Vl} (ha : a.n < 2 ^ 64) (hb : b.n < 2 ^ 64) : psameV a b = sameV a b := by
  unfold psameV sameV
  rw [psame_is ha hb]
set_option maxRecDepth 100000 in
set_option maxHeartbeats 8000000 in
theorem wSame (a b : Vl) (w : World) : Calls Try.prog 5 #[vlV a, vlV b] w fun e w' => e = .returned (.bool (psameV a b)) ∧ Below w.heap.size w w' := by
  obtain ⟨ta, na, sa, ba⟩ := a
  obtain ⟨tb, nb, sb, bb⟩ := b
  have HAL := Lib.hid (fun o1 o2 => ((Below.refl w.heap.size w).alloc (Nat.le_refl _) o1).alloc (by simp) o2)
  show Calls Try.prog 5 #[.agg #[.int .i64 ta, .float .f64 na, .string (tx sa), .bool ba], .agg #[.int .i64 tb, .float .f64 nb, .string (tx sb), .bool bb]] w _
  obtain ⟨R, hR⟩ : ∃ R, R = psameV ⟨ta, na, sa, ba⟩ ⟨tb, nb, sb, bb⟩ := ⟨_, rfl⟩
  rw [← hR]
  unfold psameV at hR
  simp only at hR
  by_cases ht : ta = tb
  · subst ht
    rw [if_neg (by simp)] at hR
    by_cases t1 : ta = 1
    · subst t1
      rw [if_pos rfl] at hR
      unfold psameN at hR
      cases hx : isNan na
      · have o1 : (FloatKind.f64.format.order na na != some .eq) = false := by rw [show FloatKind.f64.format = double from rfl, order_self hx]; rfl
        cases hy : isNan nb
        · have o2 : (FloatKind.f64.format.order nb nb != some .eq) = false := by rw [show FloatKind.f64.format = double from rfl, order_self hy]; rfl
          rw [if_neg (by simp [hx, hy])] at hR
          have HR : Hid (R = ((na : Int) == (nb : Int))) := Lib.hid hR
          have c1 := call_bits na
          have c2 := call_bits nb
          clear hR hx hy
          go_enter Try.func5, Try.ntmps5
          go_wp2
          go_quiet (fail)
          go_wp2
          go_ret
          exact ⟨ret_bool HR.out.symm, below_drewN (HAL.out _ _) _⟩
        · have o2 : (FloatKind.f64.format.order nb nb != some .eq) = true := by rw [show FloatKind.f64.format = double from rfl, order_nan nb nb (.inl hy)]; rfl
          rw [if_pos (.inr hy), hx] at hR
          have HR : Hid (R = false) := Lib.hid hR
          clear hR hx hy
          go_enter Try.func5, Try.ntmps5
          go_wp2
          go_ret
          exact ⟨ret_bool HR.out.symm, HAL.out _ _⟩
      · have o1 : (FloatKind.f64.format.order na na != some .eq) = true := by rw [show FloatKind.f64.format = double from rfl, order_nan na na (.inl hx)]; rfl
        rw [if_pos (.inl hx), hx] at hR
        cases hy : isNan nb
        · have o2 : (FloatKind.f64.format.order nb nb != some .eq) = false := by rw [show FloatKind.f64.format = double from rfl, order_self hy]; rfl
          have HR : Hid (R = false) := Lib.hid (by rw [hR, hy]; rfl)
          clear hR hx hy
          go_enter Try.func5, Try.ntmps5
          go_wp2
          go_ret
          exact ⟨ret_bool HR.out.symm, HAL.out _ _⟩
        · have o2 : (FloatKind.f64.format.order nb nb != some .eq) = true := by rw [show FloatKind.f64.format = double from rfl, order_nan nb nb (.inl hy)]; rfl
          have HR : Hid (R = true) := Lib.hid (by rw [hR, hy]; rfl)
          clear hR hx hy
          go_enter Try.func5, Try.ntmps5
          go_wp2
          go_ret
          exact ⟨ret_bool HR.out.symm, HAL.out _ _⟩
    · rw [if_neg t1] at hR
      have i1 : (ta == 1) = false := by simpa using t1
      by_cases t2 : ta = 2
      · subst t2
        rw [if_pos rfl] at hR
        have HR : Hid (R = ((tx sa).toList == (tx sb).toList)) := Lib.hid (by rw [hR, tx_toList, tx_toList]; by_cases e : sa = sb <;> simp [e])
        clear hR
        go_enter Try.func5, Try.ntmps5
        go_wp2
        go_ret
        exact ⟨ret_bool HR.out.symm, HAL.out _ _⟩
      · rw [if_neg t2] at hR
        have i2 : (ta == 2) = false := by simpa using t2
        by_cases t3 : ta = 3
        · subst t3
          rw [if_pos rfl] at hR
          have HR : Hid (R = (ba == bb)) := Lib.hid hR
          clear hR
          go_enter Try.func5, Try.ntmps5
          go_wp2
          go_ret
          exact ⟨ret_bool HR.out.symm, HAL.out _ _⟩
        · rw [if_neg t3] at hR
          have i3 : (ta == 3) = false := by simpa using t3
          have HR : Hid (R = true) := Lib.hid hR
          clear hR
          go_enter Try.func5, Try.ntmps5
          go_wp2
          go_ret
          exact ⟨ret_bool HR.out.symm, HAL.out _ _⟩
  · rw [if_pos ht] at hR
    have i1 : (ta != tb) = true := by simpa using ht
    have HR : Hid (R = false) := Lib.hid hR
    clear hR
    go_enter Try.func5, Try.ntmps5
    go_wp2
    go_ret
    exact ⟨ret_bool HR.out.symm, HAL.out _ _⟩
end Go.Proofs.Ytmhfnpabgkkjaaa
