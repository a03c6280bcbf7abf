/- Values in memory; walks: num, truth, equal, Abs. -/
import Derived.Test.YtmhfnpabgkkjaaaS3
import Derived.Test.YtmhfnpabgkkjaaaS4
namespace Go.Proofs.Ytmhfnpabgkkjaaa
open Go.RowKit Go.Shelf Ieee
attribute [local go_sem] run_store_float
/-- A value as a Go value. -/
def ValV (v : Value) (a : Av) : Prop := ∃ n, v = .agg #[.int .i64 a.t, .float .f64 n, .string (tx a.s), .bool a.b] ∧ fA n = a.n
/-- What a call that gives a value ends in. -/
def VEnd (a : Av) (w : World) (e : Ending) (w' : World) : Prop := Below w.heap.size w w' ∧ ∃ v, e = .returned v ∧ ValV v a
theorem val_res {fn : Func} {p : Tmp} (h : fn.results = #[.cell p 25]) (tmps : Array Value) (w : World) (g : Nat) (v0 v1 v2 v3 : Value) (hp : tmps.getD p undef = .pointer (some ⟨g, 0, none⟩))
    (hg : w.heap[g]? = some (.cells #[v0, v1, v2, v3] 25 (0, 0))) : (results fn tmps).run Try.prog w = .ok (.agg #[v0, v1, v2, v3]) w :=
  results_cell h tmps w g 25 _ _ _ hp hg Try.underlying25 rfl (by kernel_rfl)
theorem fA_zero : fA 0 = some 0 := by decide
set_option maxHeartbeats 1000000 in
theorem wnumV (n : Nat) (w : World) : Calls Try.prog 20 #[.float .f64 n] w (VEnd (avN (fA n)) w) := by
  go_enter Try.func20, Try.ntmps20
  go_wp2
  refine bodyPost_ret (val_res rfl _ _ w.heap.size _ _ _ _ rfl (heap_alloc_new _ _)) rfl ?_
  exact ⟨(Below.refl _ _).alloc (Nat.le_refl _) _, _, rfl, n, rfl, rfl⟩
set_option maxHeartbeats 1000000 in
theorem wtruthV (b : Bool) (w : World) : Calls Try.prog 22 #[.bool b] w (VEnd (avB b) w) := by
  go_enter Try.func22, Try.ntmps22
  go_wp2
  refine bodyPost_ret (val_res rfl _ _ w.heap.size _ _ _ _ rfl (heap_alloc_new _ _)) rfl ?_
  exact ⟨(Below.refl _ _).alloc (Nat.le_refl _) _, _, rfl, 0, rfl, fA_zero⟩
theorem isEq_order (x y : Nat) : (FloatKind.f64.format.order x y == some .eq) = cmpA isEq (fA x) (fA y) := by
  rw [cmpA_order]
  show (double.order x y == some .eq) = _
  cases double.order x y with
  | none => rfl
  | some c => cases c <;> rfl
theorem isLt_order (x y : Nat) : (FloatKind.f64.format.order x y == some .lt) = cmpA isLt (fA x) (fA y) := by
  rw [cmpA_order]
  show (double.order x y == some .lt) = _
  cases double.order x y with
  | none => rfl
  | some c => cases c <;> rfl
theorem isGt_order (x y : Nat) : (FloatKind.f64.format.order x y == some .gt) = cmpA isGt (fA x) (fA y) := by
  rw [cmpA_order]
  show (double.order x y == some .gt) = _
  cases double.order x y with
  | none => rfl
  | some c => cases c <;> rfl
theorem isLe_order (x y : Nat) : (FloatKind.f64.format.order x y == some .lt || FloatKind.f64.format.order x y == some .eq) = cmpA isLe (fA x) (fA y) := by
  rw [cmpA_order]
  show (double.order x y == some .lt || double.order x y == some .eq) = _
  cases double.order x y with
  | none => rfl
  | some c => cases c <;> rfl
theorem isGe_order (x y : Nat) : (FloatKind.f64.format.order x y == some .gt || FloatKind.f64.format.order x y == some .eq) = cmpA isGe (fA x) (fA y) := by
  rw [cmpA_order]
  show (double.order x y == some .gt || double.order x y == some .eq) = _
  cases double.order x y with
  | none => rfl
  | some c => cases c <;> rfl
set_option maxHeartbeats 4000000 in
theorem wequalV (va vb : Value) (a b : Av) (w : World) (ha : ValV va a) (hb : ValV vb b) : Calls Try.prog 39 #[va, vb] w fun e w' => e = .returned (.bool (eqA a b)) ∧ Below w.heap.size w w' := by
  obtain ⟨na, rfl, h1⟩ := ha
  obtain ⟨nb, rfl, h2⟩ := hb
  have hal : ∀ o1 o2, Below w.heap.size w ((w.alloc o1).alloc o2) := fun o1 o2 => ((Below.refl _ _).alloc (Nat.le_refl _) _).alloc (by simp) _
  have HAL := Lib.hid hal
  by_cases q1 : a.t = 1
  · have HE : Hid ((FloatKind.f64.format.order na nb == some .eq) = eqA a b) := Lib.hid (by unfold eqA; rw [if_pos q1, isEq_order, h1, h2])
    rw [q1]
    generalize b.t = tb
    clear h1 h2 hal q1
    go_enter Try.func39, Try.ntmps39
    go_wp2
    go_ret
    exact ⟨ret_bool HE.out, HAL.out _ _⟩
  · by_cases q2 : a.t = 2
    · have HE : Hid (((tx a.s).toList == (tx b.s).toList) = eqA a b) := Lib.hid (by unfold eqA; rw [if_neg q1, if_pos q2, tx_toList, tx_toList]; by_cases e : a.s = b.s <;> simp [e])
      rw [q2]
      generalize b.t = tb
      clear h1 h2 hal q1 q2
      go_enter Try.func39, Try.ntmps39
      go_wp2
      go_ret
      exact ⟨ret_bool HE.out, HAL.out _ _⟩
    · have HE : Hid ((a.b == b.b) = eqA a b) := Lib.hid (by unfold eqA; rw [if_neg q1, if_neg q2])
      have i1 : ((a.t : Int) == 1) = false := by simp; omega
      have i2 : ((a.t : Int) == 2) = false := by simp; omega
      generalize a.t = ta at q1 q2 i1 i2 ⊢
      generalize b.t = tb
      clear h1 h2 hal
      go_enter Try.func39, Try.ntmps39
      go_wp2
      go_ret
      exact ⟨ret_bool HE.out, HAL.out _ _⟩
end Go.Proofs.Ytmhfnpabgkkjaaa
