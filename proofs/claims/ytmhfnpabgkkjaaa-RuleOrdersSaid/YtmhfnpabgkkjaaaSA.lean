/- Walks: TypeOf, Abs; what a tree that has a type is like. -/
import Derived.Test.YtmhfnpabgkkjaaaS9
namespace Go.Proofs.Ytmhfnpabgkkjaaa
open Go.RowKit Go.Shelf Ieee
attribute [local go_sem] run_store_float
/-- A tree's type where it isn't too deep. -/
def tyP (L : List Bnd) (t : Tree) : Nat × Nat := if 16 < depT t then (0, 190) else tyT L t
set_option maxRecDepth 100000 in
set_option maxHeartbeats 4000000 in
theorem wtypeOf (L : List Bnd) (hLL : L.length ≤ 1000000) (vb : Value) (t : Tree) (A : Nat → Prop) (v : Value) (w : World) (hz : szT t ≤ 1000000) (hv : NodeV A w v t) (hb : BndV w vb L) :
    Calls Try.prog 14 #[v, vb] w fun e w' => e = .returned (.tuple #[.int .i64 ((tyP L t).1 : Nat), .int .i64 ((tyP L t).2 : Nat)]) ∧ Below w.heap.size w w' := by
  have HDP := Lib.hid (fun W (h : NodeV A W v t) => wdepth _ t (Nat.le_refl _) A v W hz h)
  have HTY := Lib.hid (fun W (h : NodeV A W v t) (k : BndV W vb L) => wtyped L hLL vb _ t (Nat.le_refl _) A v W hz h k)
  have HDD : Hid (depT t ≤ 1000000) := Lib.hid (by have := dep_sz t; omega)
  have HV := Lib.hid hv
  have HBV := Lib.hid hb
  obtain ⟨o, n, s, x, l, c, rfl⟩ := hv.agg
  obtain ⟨bx, bn, bc, rfl⟩ := hb.agg
  obtain ⟨R, hR⟩ : ∃ R, R = tyP L t := ⟨_, rfl⟩
  rw [← hR]
  unfold tyP at hR
  obtain ⟨T, hT⟩ : ∃ T, T = tyT L t := ⟨_, rfl⟩
  rw [← hT] at hR HTY
  obtain ⟨D, hD⟩ : ∃ D, D = depT t := ⟨_, rfl⟩
  rw [← hD] at hR HDP HDD
  have HR := Lib.hid hR
  have hdd := HDD.out
  have HB0 := Lib.hid (bel1 w (.cells #[.string o, .float .f64 n, .string s, .slice x l c] 38))
  have HNB : Hid (NB (w.alloc (.cells #[.string o, .float .f64 n, .string s, .slice x l c] 38)) w.heap.size (.agg #[.string o, .float .f64 n, .string s, .slice x l c])) := Lib.hid ⟨_, _, _, _, rfl, heap_alloc_new _ _⟩
  clear hv hb hz hR hT hD
  go_enter Try.func14, Try.ntmps14
  go_wp2_with (first | (go_at_call 13; fail))
  generalize w.alloc (.cells #[.string o, .float .f64 n, .string s, .slice x l c] 38) = W0 at HB0 HNB ⊢
  go_at_call 13
  refine (HDP.out _ (HV.out.below HB0.out)).mono ?_
  rintro e w2 ⟨rfl, hb2⟩
  have HB2 := Lib.hid (HB0.out.trans (below_le hb2 HB0.out.size))
  obtain ⟨p0, p1, p2, p3, _⟩ := (HNB.out.below hb2).cells
  have hlt := (HNB.out.below hb2).lt
  clear hb2 HB0 HNB HDP
  by_cases q : 16 < D
  · have HR2 : Hid (R = (0, 190)) := Lib.hid (by rw [HR.out, if_pos q])
    go_wp2
    go_ret2
    exact ⟨by rw [HR2.out]; rfl, HB2.out⟩
  · have HR2 : Hid (R = T) := Lib.hid (by rw [HR.out, if_neg q])
    obtain ⟨T1, T2⟩ := T
    go_wp2_with (first | (go_at_call 19; fail))
    go_at_call 19
    refine (HTY.out _ (HV.out.below HB2.out) (HBV.out.below HB2.out)).mono ?_
    rintro e w3 ⟨rfl, hb3⟩
    have HB3 := Lib.hid (HB2.out.trans (below_le hb3 HB2.out.size))
    clear hb3
    go_wp2
    go_ret2
    exact ⟨by rw [HR2.out]; rfl, HB3.out⟩
theorem call_bits (x : Nat) (w : World) : (callFunc 10 #[.float .f64 x]).run Try.prog w = .ok (.value (.int .u64 x)) w := by
  rw [run_callFunc_extern (P := Try.prog) (f := 10) (fn := Try.f10) (e := Extern.MathFloatBits.float64bits) (by kernel_rfl) (by kernel_rfl) (by kernel_rfl) (by kernel_rfl) (by kernel_rfl)]
  rfl
theorem call_float (x : Nat) (w : World) : (callFunc 36 #[.int .u64 (x : Int)]).run Try.prog w = .ok (.value (.float .f64 x)) w := by
  rw [run_callFunc_extern (P := Try.prog) (f := 36) (fn := Try.f36) (e := Extern.MathFloatBits.float64frombits) (by kernel_rfl) (by kernel_rfl) (by kernel_rfl) (by kernel_rfl) (by kernel_rfl)]
  rfl
theorem u64_andNot_top (x : Nat) : bits .andNot .u64 (x : Int) 9223372036854775808 = ((x % 2 ^ 63 : Nat) : Int) := by
  have e0 : bits .andNot .u64 (x : Int) 9223372036854775808 = IntKind.u64.wrap ((BitVec.ofInt 64 (x : Int) &&& ~~~BitVec.ofInt 64 9223372036854775808).toNat : Int) := rfl
  have e1 : ~~~BitVec.ofInt 64 9223372036854775808 = BitVec.ofNat 64 (2 ^ 63 - 1) := by decide
  have e2 : x % 2 ^ 64 % 2 ^ 63 = x % 2 ^ 63 := by omega
  have e3 : x % 2 ^ 63 < 2 ^ 63 := Nat.mod_lt _ (by decide)
  rw [e0, e1, BitVec.ofInt_natCast, BitVec.toNat_and, BitVec.toNat_ofNat, BitVec.toNat_ofNat, Nat.mod_eq_of_lt (show 2 ^ 63 - 1 < 2 ^ 64 by decide), Nat.and_two_pow_sub_one_eq_mod, e2, IntKind.wrap_u64]
  omega
set_option maxHeartbeats 1000000 in
theorem wabsF (x : Nat) (w : World) : Calls Try.prog 23 #[.float .f64 x] w fun e w' => e = .returned (.float .f64 (x % 2 ^ 63)) ∧ w = w' := by
  have hb := call_bits
  have hf := call_float (x % 2 ^ 63)
  have ha := u64_andNot_top x
  obtain ⟨y, hy⟩ : ∃ y, y = x % 2 ^ 63 := ⟨_, rfl⟩
  rw [← hy] at hf ha ⊢
  clear hy
  go_enter Try.func23, Try.ntmps23
  go_wp2
  go_ret
  exact ⟨rfl, rfl⟩
/-- What a tree that has a type is like. -/
theorem ty_ok {L : List Bnd} {op s : Bs} {fn : Nat} {c : List Tree} (h : (tyT L (.mk op fn s c)).2 = 0) : takesT op = some c.length ∧ (∀ i (hi : i < c.length), (tyT L c[i]).2 = 0) ∧ (op = wname → ∃ v, boundV L s = some v) := by
  rw [tyT] at h
  by_cases q : (tyL L c).2 = 0
  · rw [if_neg (by rw [q]; decide)] at h
    have hg := tyL_all L c q
    by_cases q2 : takesT op = some c.length
    · refine ⟨q2, hg, fun hn => ?_⟩
      rw [if_neg (by rw [q2]; exact fun e => e rfl)] at h
      subst hn
      rw [if_neg (by decide), if_neg (by decide), if_pos rfl] at h
      cases hb : boundV L s with
      | none => rw [hb] at h; cases h
      | some v => exact ⟨v, rfl⟩
    · rw [if_pos q2] at h
      cases h
  · rw [if_pos q] at h
    exact absurd h q
mutual
/-- No text in a tree is longer. -/
def txT (k : Nat) : Tree → Prop
  | .mk _ _ s l => s.length ≤ k ∧ txL k l
def txL (k : Nat) : List Tree → Prop
  | [] => True
  | t :: r => txT k t ∧ txL k r
end
theorem txL_get {k : Nat} : ∀ {l : List Tree}, txL k l → ∀ i (h : i < l.length), txT k l[i]
  | [], _, i, h => by cases h
  | t :: r, hl, 0, _ => hl.1
  | t :: r, hl, i + 1, h => txL_get hl.2 i (by simpa using h)
theorem bound_len {L : List Bnd} {s : Bs} {v : Vl} {k : Nat} (hL : ∀ b ∈ L, b.v.s.length ≤ k) (h : boundV L s = some v) : v.s.length ≤ k := by
  have key : ∀ (L : List Bnd) b, (∀ b ∈ L, b.v.s.length ≤ k) → firstB s L = some b → b.v.s.length ≤ k := fun L => by
    induction L with
    | nil => intro b _ h; cases h
    | cons a r ih =>
      intro b hk h
      unfold firstB at h
      split at h
      · cases h; exact hk _ (by simp)
      · exact ih b (fun b hb => hk b (by simp [hb])) h
  unfold boundV at h
  split at h
  · cases h
  · rename_i b hb
    have := key L b hL hb
    unfold plainV at h
    split at h
    · cases h; simp
    · split at h
      · cases h; exact this
      · split at h
        · cases h; simp
        · cases h
theorem one_s (C : Bs → Nat) (op : Bs) (a : Av) : (oneA C op a).s = [] := by
  unfold oneA
  repeat' (first | rfl | split)
theorem ite_s (c : Prop) [Decidable c] (x y : Av) (hx : x.s = []) (hy : y.s = []) : (if c then x else y).s = [] := by
  split
  · exact hx
  · exact hy
theorem two_s (op : Bs) (a b : Av) : (twoA op a b).s = [] := by
  unfold twoA
  iterate 12 refine ite_s _ _ _ rfl ?_
  rfl
theorem ev_len (C : Bs → Nat) {L : List Bnd} {k : Nat} (hL : ∀ b ∈ L, b.v.s.length ≤ k) {t : Tree} (ht : txT k t) : (evT C L t).s.length ≤ k := by
  obtain ⟨op, n, s, c⟩ := t
  have h1 : s.length ≤ k := ht.1
  have hN : ∀ x, (avN x).s.length ≤ k := fun b => Nat.zero_le k
  rw [evT]
  split
  · exact hN _
  · split
    · exact h1
    · split
      · split
        · rename_i v hv; exact bound_len hL hv
        · exact Nat.zero_le k
      · split
        · rw [one_s]; exact Nat.zero_le k
        · rw [two_s]; exact Nat.zero_le k
        · exact Nat.zero_le k
end Go.Proofs.Ytmhfnpabgkkjaaa
