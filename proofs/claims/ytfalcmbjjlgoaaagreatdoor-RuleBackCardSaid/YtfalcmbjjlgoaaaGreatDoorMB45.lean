/- Own texts, merged: SA, V7, X4. -/
import Derived.Test.YtfalcmbjjlgoaaaGreatDoorMB37
import Derived.Test.YtfalcmbjjlgoaaaGreatDoorMB42
import Derived.Test.YtfalcmbjjlgoaaaGreatDoorMB44
/- Walks: TypeOf, Abs; what a tree that has a type is like. -/
namespace Go.Proofs.YtfalcmbjjlgoaaaGreatDoor
open Go.RowKit Go.Shelf Ieee
attribute [local go_sem] run_store_float
/-- A tree's type where it isn't too deep. -/
def tyP (L : List Bnd) (t : Tree) : Nat × Nat := if 16 < depT t then (0, 190) else tyT L t
set_option maxRecDepth 100000 in
set_option maxHeartbeats 4000000 in
theorem wtypeOf (L : List Bnd) (hLL : L.length ≤ 1000000) (vb : Value) (t : Tree) (A : Nat → Prop) (v : Value) (w : World) (hz : szT t ≤ 1000000) (hv : NodeV A w v t) (hb : BndV w vb L) :
    Calls Tryz.prog 13 #[v, vb] w fun e w' => e = .returned (.tuple #[.int .i64 ((tyP L t).1 : Nat), .int .i64 ((tyP L t).2 : Nat)]) ∧ Below w.heap.size w w' := by
  have HDP := Lib.hid (fun W (h : NodeV A W v t) => wdepth _ t (Nat.le_refl _) A v W hz h)
  have HTY := Lib.hid (fun W (h : NodeV A W v t) (k : BndV W vb L) => wtyped L hLL vb _ t (Nat.le_refl _) A v W hz h k)
  have HDD : Hid (depT t ≤ 1000000) := Lib.hid (by have := dep_sz t; omega)
  have HV := Lib.hid hv
  have HBV := Lib.hid hb
  obtain ⟨o, n, s, x, l, c, rfl⟩ := hv.agg
  obtain ⟨bx, bn, bc, rfl⟩ := hb.agg
  obtain ⟨R, hR⟩ : ∃ R, R = tyP L t := ⟨_, rfl⟩
  rw [← hR]
  unfold tyP at hR
  obtain ⟨T, hT⟩ : ∃ T, T = tyT L t := ⟨_, rfl⟩
  rw [← hT] at hR HTY
  obtain ⟨D, hD⟩ : ∃ D, D = depT t := ⟨_, rfl⟩
  rw [← hD] at hR HDP HDD
  have HR := Lib.hid hR
  have hdd := HDD.out
  have HB0 := Lib.hid (bel1 w (.cells #[.string o, .float .f64 n, .string s, .slice x l c] 25))
  have HNB : Hid (NB (w.alloc (.cells #[.string o, .float .f64 n, .string s, .slice x l c] 25)) w.heap.size (.agg #[.string o, .float .f64 n, .string s, .slice x l c])) := Lib.hid ⟨_, _, _, _, rfl, heap_alloc_new _ _⟩
  clear hv hb hz hR hT hD
  go_enter Tryz.func13, Tryz.ntmps13
  go_wp2_with (first | (go_at_call 18; fail))
  generalize w.alloc (.cells #[.string o, .float .f64 n, .string s, .slice x l c] 25) = W0 at HB0 HNB ⊢
  go_at_call 18
  refine (HDP.out _ (HV.out.below HB0.out)).mono ?_
  rintro e w2 ⟨rfl, hb2⟩
  have HB2 := Lib.hid (HB0.out.trans (below_le hb2 HB0.out.size))
  obtain ⟨p0, p1, p2, p3, _⟩ := (HNB.out.below hb2).cells
  have hlt := (HNB.out.below hb2).lt
  clear hb2 HB0 HNB HDP
  by_cases q : 16 < D
  · have HR2 : Hid (R = (0, 190)) := Lib.hid (by rw [HR.out, if_pos q])
    go_wp2
    go_ret2
    exact ⟨by rw [HR2.out]; rfl, HB2.out⟩
  · have HR2 : Hid (R = T) := Lib.hid (by rw [HR.out, if_neg q])
    obtain ⟨T1, T2⟩ := T
    go_wp2_with (first | (go_at_call 28; fail))
    go_at_call 28
    refine (HTY.out _ (HV.out.below HB2.out) (HBV.out.below HB2.out)).mono ?_
    rintro e w3 ⟨rfl, hb3⟩
    have HB3 := Lib.hid (HB2.out.trans (below_le hb3 HB2.out.size))
    clear hb3
    go_wp2
    go_ret2
    exact ⟨by rw [HR2.out]; rfl, HB3.out⟩
theorem call_bits (x : Nat) (w : World) : (callFunc 85 #[.float .f64 x]).run Tryz.prog w = .ok (.value (.int .u64 x)) w := by
  rw [run_callFunc_extern (P := Tryz.prog) (f := 85) (fn := Tryz.f85) (e := Extern.MathFloatBits.float64bits) (by kernel_rfl) (by kernel_rfl) (by kernel_rfl) (by kernel_rfl) (by kernel_rfl)]
  rfl
theorem call_float (x : Nat) (w : World) : (callFunc 86 #[.int .u64 (x : Int)]).run Tryz.prog w = .ok (.value (.float .f64 x)) w := by
  rw [run_callFunc_extern (P := Tryz.prog) (f := 86) (fn := Tryz.f86) (e := Extern.MathFloatBits.float64frombits) (by kernel_rfl) (by kernel_rfl) (by kernel_rfl) (by kernel_rfl) (by kernel_rfl)]
  rfl
theorem u64_andNot_top (x : Nat) : bits .andNot .u64 (x : Int) 9223372036854775808 = ((x % 2 ^ 63 : Nat) : Int) := by
  have e0 : bits .andNot .u64 (x : Int) 9223372036854775808 = IntKind.u64.wrap ((BitVec.ofInt 64 (x : Int) &&& ~~~BitVec.ofInt 64 9223372036854775808).toNat : Int) := rfl
  have e1 : ~~~BitVec.ofInt 64 9223372036854775808 = BitVec.ofNat 64 (2 ^ 63 - 1) := by decide
  have e2 : x % 2 ^ 64 % 2 ^ 63 = x % 2 ^ 63 := by omega
  have e3 : x % 2 ^ 63 < 2 ^ 63 := Nat.mod_lt _ (by decide)
  rw [e0, e1, BitVec.ofInt_natCast, BitVec.toNat_and, BitVec.toNat_ofNat, BitVec.toNat_ofNat, Nat.mod_eq_of_lt (show 2 ^ 63 - 1 < 2 ^ 64 by decide), Nat.and_two_pow_sub_one_eq_mod, e2, IntKind.wrap_u64]
  omega
set_option maxHeartbeats 1000000 in
theorem wabsF (x : Nat) (w : World) : Calls Tryz.prog 81 #[.float .f64 x] w fun e w' => e = .returned (.float .f64 (x % 2 ^ 63)) ∧ w = w' := by
  have hb := call_bits
  have hf := call_float (x % 2 ^ 63)
  have ha := u64_andNot_top x
  obtain ⟨y, hy⟩ : ∃ y, y = x % 2 ^ 63 := ⟨_, rfl⟩
  rw [← hy] at hf ha ⊢
  clear hy
  go_enter Tryz.func81, Tryz.ntmps81
  go_wp2
  go_ret
  exact ⟨rfl, rfl⟩
/-- What a tree that has a type is like. -/
theorem ty_ok {L : List Bnd} {op s : Bs} {fn : Nat} {c : List Tree} (h : (tyT L (.mk op fn s c)).2 = 0) : takesT op = some c.length ∧ (∀ i (hi : i < c.length), (tyT L c[i]).2 = 0) ∧ (op = wname → ∃ v, boundV L s = some v) := by
  rw [tyT] at h
  by_cases q : (tyL L c).2 = 0
  · rw [if_neg (by rw [q]; decide)] at h
    have hg := tyL_all L c q
    by_cases q2 : takesT op = some c.length
    · refine ⟨q2, hg, fun hn => ?_⟩
      rw [if_neg (by rw [q2]; exact fun e => e rfl)] at h
      subst hn
      rw [if_neg (by decide), if_neg (by decide), if_pos rfl] at h
      cases hb : boundV L s with
      | none => rw [hb] at h; cases h
      | some v => exact ⟨v, rfl⟩
    · rw [if_pos q2] at h
      cases h
  · rw [if_pos q] at h
    exact absurd h q
mutual
/-- No text in a tree is longer. -/
def txT (k : Nat) : Tree → Prop
  | .mk _ _ s l => s.length ≤ k ∧ txL k l
def txL (k : Nat) : List Tree → Prop
  | [] => True
  | t :: r => txT k t ∧ txL k r
end
theorem txL_get {k : Nat} : ∀ {l : List Tree}, txL k l → ∀ i (h : i < l.length), txT k l[i]
  | [], _, i, h => by cases h
  | t :: r, hl, 0, _ => hl.1
  | t :: r, hl, i + 1, h => txL_get hl.2 i (by simpa using h)
theorem bound_len {L : List Bnd} {s : Bs} {v : Vl} {k : Nat} (hL : ∀ b ∈ L, b.v.s.length ≤ k) (h : boundV L s = some v) : v.s.length ≤ k := by
  have key : ∀ (L : List Bnd) b, (∀ b ∈ L, b.v.s.length ≤ k) → firstB s L = some b → b.v.s.length ≤ k := fun L => by
    induction L with
    | nil => intro b _ h; cases h
    | cons a r ih =>
      intro b hk h
      unfold firstB at h
      split at h
      · cases h; exact hk _ (by simp)
      · exact ih b (fun b hb => hk b (by simp [hb])) h
  unfold boundV at h
  split at h
  · cases h
  · rename_i b hb
    have := key L b hL hb
    unfold plainV at h
    split at h
    · cases h; simp
    · split at h
      · cases h; exact this
      · split at h
        · cases h; simp
        · cases h
theorem one_s (C : Bs → Nat) (op : Bs) (a : Av) : (oneA C op a).s = [] := by
  unfold oneA
  repeat' (first | rfl | split)
theorem ite_s (c : Prop) [Decidable c] (x y : Av) (hx : x.s = []) (hy : y.s = []) : (if c then x else y).s = [] := by
  split
  · exact hx
  · exact hy
theorem two_s (op : Bs) (a b : Av) : (twoA op a b).s = [] := by
  unfold twoA
  iterate 12 refine ite_s _ _ _ rfl ?_
  rfl
theorem ev_len (C : Bs → Nat) {L : List Bnd} {k : Nat} (hL : ∀ b ∈ L, b.v.s.length ≤ k) {t : Tree} (ht : txT k t) : (evT C L t).s.length ≤ k := by
  obtain ⟨op, n, s, c⟩ := t
  have h1 : s.length ≤ k := ht.1
  have hN : ∀ x, (avN x).s.length ≤ k := fun b => Nat.zero_le k
  rw [evT]
  split
  · exact hN _
  · split
    · exact h1
    · split
      · split
        · rename_i v hv; exact bound_len hL hv
        · exact Nat.zero_le k
      · split
        · rw [one_s]; exact Nat.zero_le k
        · rw [two_s]; exact Nat.zero_le k
        · exact Nat.zero_le k
end Go.Proofs.YtfalcmbjjlgoaaaGreatDoor
/- Walks: part at a tree, Print at a tree: the program's. -/
namespace Go.Proofs.YtfalcmbjjlgoaaaGreatDoor
open Go.RowKit Go.Shelf Ieee Go.Lib
attribute [local go_sem] run_store_float
/-- What a child of a node is in memory. -/
theorem kid1 {A : Nat → Prop} {w : World} {a : Addr} {t0 : Tree} {r : List Tree} (h : NodesV A w a 0 (t0 :: r)) : ∃ o1 n1 s1 x1 l1 c1, w.cell? a = some (.string o1) ∧ w.cell? ⟨a.block, a.off + 1, none⟩ = some (.float .f64 n1) ∧ w.cell? ⟨a.block, a.off + 2, none⟩ = some (.string s1) ∧ w.cell? ⟨a.block, a.off + 3, none⟩ = some (.slice x1 l1 c1) ∧ NodeV A w (.agg #[.string o1, .float .f64 n1, .string s1, .slice x1 l1 c1]) t0 := by
  obtain ⟨⟨u0, u1, u2, u3, e0, e1, e2, e3, hnode⟩, _⟩ := h
  simp only [Nat.zero_mul, Nat.zero_add] at e0 e1 e2 e3
  rw [show a.add 0 = a from rfl] at e0
  obtain ⟨o1, n1, s1, x1, l1, c1, hag⟩ := hnode.agg
  cases hag
  exact ⟨o1, n1, s1, x1, l1, c1, e0, by simpa [Addr.add] using e1, by simpa [Addr.add] using e2, by simpa [Addr.add] using e3, hnode⟩
theorem kid2 {A : Nat → Prop} {w : World} {a : Addr} {t0 t1 : Tree} {r : List Tree} (h : NodesV A w a 0 (t0 :: t1 :: r)) : ∃ o1 n1 s1 x1 l1 c1, w.cell? ⟨a.block, a.off + 4, none⟩ = some (.string o1) ∧ w.cell? ⟨a.block, a.off + 4 + 1, none⟩ = some (.float .f64 n1) ∧ w.cell? ⟨a.block, a.off + 4 + 2, none⟩ = some (.string s1) ∧ w.cell? ⟨a.block, a.off + 4 + 3, none⟩ = some (.slice x1 l1 c1) ∧ NodeV A w (.agg #[.string o1, .float .f64 n1, .string s1, .slice x1 l1 c1]) t1 := by
  obtain ⟨_, ⟨u0, u1, u2, u3, e0, e1, e2, e3, hnode⟩, _⟩ := h
  simp only [Nat.zero_add, Nat.one_mul] at e0 e1 e2 e3
  obtain ⟨o1, n1, s1, x1, l1, c1, hag⟩ := hnode.agg
  cases hag
  exact ⟨o1, n1, s1, x1, l1, c1, by simpa [Addr.add] using e0, by simpa [Addr.add] using e1, by simpa [Addr.add] using e2, by simpa [Addr.add] using e3, hnode⟩
theorem NodeV.op {A : Nat → Prop} {w : World} {o s : ByteArray} {n : Nat} {x : Option Addr} {l c : Nat} {t : Tree} (h : NodeV A w (.agg #[.string o, .float .f64 n, .string s, .slice x l c]) t) : o = tx t.op := by
  obtain ⟨op, fn, st, ch⟩ := t
  obtain ⟨x', cap, hv, _⟩ := h
  cases hv
  rfl
theorem prt_bad {N : Nat → Bs} {op s : Bs} {n : Nat} {l : List Tree} (h : takesT op ≠ some l.length) : prtT N (.mk op n s l) = [48] := by
  rw [prtT]; unfold prtO; rw [prtL_len, if_pos h]
theorem prt_num {N : Nat → Bs} {op s : Bs} {n : Nat} {l : List Tree} (h : takesT op = some l.length) (h0 : op = wnum) : prtT N (.mk op n s l) = N n := by
  rw [prtT]; unfold prtO; rw [prtL_len, if_neg (by rw [h]; exact fun e => e rfl), if_pos h0]
theorem prt_text {N : Nat → Bs} {op s : Bs} {n : Nat} {l : List Tree} (h : takesT op = some l.length) (h0 : op ≠ wnum) (h1 : op = wtext) : prtT N (.mk op n s l) = [39] ++ s ++ [39] := by
  rw [prtT]; unfold prtO; rw [prtL_len, if_neg (by rw [h]; exact fun e => e rfl), if_neg h0, if_pos h1]
theorem prt_name {N : Nat → Bs} {op s : Bs} {n : Nat} {l : List Tree} (h : takesT op = some l.length) (h0 : op ≠ wnum) (h1 : op ≠ wtext) (h2 : op = wname) : prtT N (.mk op n s l) = s := by
  rw [prtT]; unfold prtO; rw [prtL_len, if_neg (by rw [h]; exact fun e => e rfl), if_neg h0, if_neg h1, if_pos h2]
theorem prt_one {N : Nat → Bs} {op s : Bs} {n : Nat} {t0 : Tree} (h : takesT op = some 1) (h0 : op ≠ wnum) (h1 : op ≠ wtext) (h2 : op ≠ wname) : prtT N (.mk op n s [t0]) = if op = wnot then [110, 111, 116, 32] ++ parS t0.op (prtT N t0) else if op = wneg then [45] ++ parS t0.op (prtT N t0) else op ++ [40] ++ prtT N t0 ++ [41] := by
  rw [prtT]; unfold prtO; rw [prtL_len, if_neg (by rw [h]; exact fun e => e rfl), if_neg h0, if_neg h1, if_neg h2]; rfl
theorem prt_two {N : Nat → Bs} {op s : Bs} {n : Nat} {t0 t1 : Tree} (h : takesT op = some 2) (h0 : op ≠ wnum) (h1 : op ≠ wtext) (h2 : op ≠ wname) : prtT N (.mk op n s [t0, t1]) = if op = whas then [104, 97, 115, 40] ++ prtT N t0 ++ [44, 32] ++ prtT N t1 ++ [41] else parS t0.op (prtT N t0) ++ [32] ++ op ++ [32] ++ parS t1.op (prtT N t1) := by
  rw [prtT]; unfold prtO; rw [prtL_len, if_neg (by rw [h]; exact fun e => e rfl), if_neg h0, if_neg h1, if_neg h2]; rfl
theorem takes_12' {op : Bs} {k : Nat} (h : takesT op = some k) (h0 : op ≠ wnum) (h1 : op ≠ wtext) (h2 : op ≠ wname) : (k = 1 ∧ (op = wnot ∨ op = wneg ∨ op = wlen ∨ op = wabs)) ∨ (k = 2 ∧ op ≠ wnot ∧ op ≠ wneg ∧ op ≠ wlen ∧ op ≠ wabs) := by
  unfold takesT at h
  rw [if_neg (fun e => by rcases e with e | e | e; exact h0 e; exact h1 e; exact h2 e)] at h
  by_cases q : op = wnot ∨ op = wneg ∨ op = wlen ∨ op = wabs
  · rw [if_pos q] at h
    cases h
    exact .inl ⟨rfl, q⟩
  · rw [if_neg q] at h
    split at h
    · cases h
      exact .inr ⟨rfl, fun e => q (.inl e), fun e => q (.inr (.inl e)), fun e => q (.inr (.inr (.inl e))), fun e => q (.inr (.inr (.inr e)))⟩
    · cases h
theorem len1 {α : Type} {l : List α} (h : l.length = 1) : ∃ a, l = [a] := by
  cases l with
  | nil => cases h
  | cons a r => cases r with
    | nil => exact ⟨a, rfl⟩
    | cons b r => simp at h
theorem len2 {α : Type} {l : List α} (h : l.length = 2) : ∃ a b, l = [a, b] := by
  cases l with
  | nil => cases h
  | cons a r =>
    obtain ⟨b, rfl⟩ := len1 (l := r) (by simpa using h)
    exact ⟨a, b, rfl⟩
/-- What Print and part give at a child, its text being r. -/
def Kid (w : World) (v : Value) (op r : Bs) : Prop := r.length ≤ 900000 ∧ (∀ W, Below w.heap.size w W → Calls Tryz.prog 9 #[v] W fun e w' => e = .returned (.string (tx r)) ∧ Below W.heap.size W w') ∧ (∀ W, Below w.heap.size w W → Calls Tryz.prog 26 #[v] W fun e w' => e = .returned (.string (tx (parS op r))) ∧ Below W.heap.size W w')
theorem kid_of {w : World} {op r : Bs} {n1 : Nat} {s1 : ByteArray} {x1 : Option Addr} {l1 c1 : Nat} (hr : r.length ≤ 900000) (h : ∀ W, Below w.heap.size w W → Calls Tryz.prog 9 #[.agg #[.string (tx op), .float .f64 n1, .string s1, .slice x1 l1 c1]] W fun e w' => e = .returned (.string (tx r)) ∧ Below W.heap.size W w') :
    Kid w (.agg #[.string (tx op), .float .f64 n1, .string s1, .slice x1 l1 c1]) op r :=
  ⟨hr, h, fun W hW => wpart op n1 s1 x1 l1 c1 r (by omega) W (fun W2 h2 => h W2 (hW.trans (below_le h2 hW.size)))⟩
set_option maxRecDepth 100000 in
set_option maxHeartbeats 1000000 in
theorem wpr_kid1 (op s : Bs) (fn : Nat) (a : Addr) (cap : Nat) (w : World) (hk : takesT op = some 1) (h0 : op ≠ wnum) (h1 : op ≠ wtext) (h2 : op ≠ wname) (o0 r0 : Bs) (hab : a.block < w.heap.size)
    (o1 s1 : ByteArray) (n1 : Nat) (x1 : Option Addr) (l1 c1 : Nat) (e0 : w.cell? a = some (.string o1)) (e1 : w.cell? ⟨a.block, a.off + 1, none⟩ = some (.float .f64 n1)) (e2 : w.cell? ⟨a.block, a.off + 2, none⟩ = some (.string s1)) (e3 : w.cell? ⟨a.block, a.off + 3, none⟩ = some (.slice x1 l1 c1))
    (K : Kid w (.agg #[.string o1, .float .f64 n1, .string s1, .slice x1 l1 c1]) o0 r0)
    (hSH : ∀ W, Below w.heap.size w W → Calls Tryz.prog 24 #[.agg #[.string (tx op), .float .f64 fn, .string (tx s), .slice (some a) 1 cap]] W fun e w' => e = .returned (.bool true) ∧ Below W.heap.size W w') :
    Calls Tryz.prog 9 #[.agg #[.string (tx op), .float .f64 fn, .string (tx s), .slice (some a) 1 cap]] w fun e w' => e = .returned (.string (tx (if op = wnot then [110, 111, 116, 32] ++ parS o0 r0 else if op = wneg then [45] ++ parS o0 r0 else op ++ [40] ++ r0 ++ [41]))) ∧ Below w.heap.size w w' := by
  obtain ⟨hr, k1, k2⟩ := K
  have hl1 := parS_len o0 r0
  rcases takes_12' hk h0 h1 h2 with ⟨_, ho⟩ | ⟨hl, _⟩
  · rcases ho with ho | ho | ho | ho
    · rw [if_pos ho]
      exact wpr_not op s fn _ 1 cap w h0 h1 h2 ho a hab o1 s1 n1 x1 l1 c1 e0 e1 e2 e3 rfl rfl _ (by omega) (Lib.hid k2) (Lib.hid hSH)
    · have h3 : op ≠ wnot := by rw [ho]; decide
      rw [if_neg h3, if_pos ho]
      exact wpr_neg op s fn _ 1 cap w h0 h1 h2 h3 ho a hab o1 s1 n1 x1 l1 c1 e0 e1 e2 e3 rfl rfl _ (by omega) (Lib.hid k2) (Lib.hid hSH)
    · have h3 : op ≠ wnot := by rw [ho]; decide
      have h4 : op ≠ wneg := by rw [ho]; decide
      rw [if_neg h3, if_neg h4]
      exact wpr_len op s fn _ 1 cap w h0 h1 h2 h3 h4 ho a hab o1 s1 n1 x1 l1 c1 e0 e1 e2 e3 rfl rfl _ (by omega) (Lib.hid k1) (Lib.hid hSH)
    · have h3 : op ≠ wnot := by rw [ho]; decide
      have h4 : op ≠ wneg := by rw [ho]; decide
      have h5 : op ≠ wlen := by rw [ho]; decide
      rw [if_neg h3, if_neg h4]
      exact wpr_abs op s fn _ 1 cap w h0 h1 h2 h3 h4 h5 ho a hab o1 s1 n1 x1 l1 c1 e0 e1 e2 e3 rfl rfl _ (by omega) (Lib.hid k1) (Lib.hid hSH)
  · cases hl
set_option maxRecDepth 100000 in
set_option maxHeartbeats 1000000 in
theorem wpr_kid2 (op s : Bs) (fn : Nat) (a : Addr) (cap : Nat) (w : World) (hk : takesT op = some 2) (h0 : op ≠ wnum) (h1 : op ≠ wtext) (h2 : op ≠ wname) (o0 r0 o9 r9 : Bs) (hab : a.block < w.heap.size)
    (o1 s1 : ByteArray) (n1 : Nat) (x1 : Option Addr) (l1 c1 : Nat) (e0 : w.cell? a = some (.string o1)) (e1 : w.cell? ⟨a.block, a.off + 1, none⟩ = some (.float .f64 n1)) (e2 : w.cell? ⟨a.block, a.off + 2, none⟩ = some (.string s1)) (e3 : w.cell? ⟨a.block, a.off + 3, none⟩ = some (.slice x1 l1 c1))
    (o2 s2 : ByteArray) (n2 : Nat) (x2 : Option Addr) (l2 c2 : Nat) (e4 : w.cell? ⟨a.block, a.off + 4, none⟩ = some (.string o2)) (e5 : w.cell? ⟨a.block, a.off + 4 + 1, none⟩ = some (.float .f64 n2)) (e6 : w.cell? ⟨a.block, a.off + 4 + 2, none⟩ = some (.string s2)) (e7 : w.cell? ⟨a.block, a.off + 4 + 3, none⟩ = some (.slice x2 l2 c2))
    (K : Kid w (.agg #[.string o1, .float .f64 n1, .string s1, .slice x1 l1 c1]) o0 r0) (K2 : Kid w (.agg #[.string o2, .float .f64 n2, .string s2, .slice x2 l2 c2]) o9 r9)
    (hSH : ∀ W, Below w.heap.size w W → Calls Tryz.prog 24 #[.agg #[.string (tx op), .float .f64 fn, .string (tx s), .slice (some a) 2 cap]] W fun e w' => e = .returned (.bool true) ∧ Below W.heap.size W w') :
    Calls Tryz.prog 9 #[.agg #[.string (tx op), .float .f64 fn, .string (tx s), .slice (some a) 2 cap]] w fun e w' => e = .returned (.string (tx (if op = whas then [104, 97, 115, 40] ++ r0 ++ [44, 32] ++ r9 ++ [41] else parS o0 r0 ++ [32] ++ op ++ [32] ++ parS o9 r9))) ∧ Below w.heap.size w w' := by
  obtain ⟨hr, k1, k2⟩ := K
  obtain ⟨hr9, k3, k4⟩ := K2
  have hl1 := parS_len o0 r0
  have hl3 := parS_len o9 r9
  rcases takes_12' hk h0 h1 h2 with ⟨hl, _⟩ | ⟨_, hn1, hn2, hn3, hn4⟩
  · cases hl
  · by_cases h7 : op = whas
    · rw [if_pos h7]
      exact wpr_has op s fn _ 2 cap w h0 h1 h2 hn1 hn2 hn3 hn4 h7 a hab o1 s1 n1 x1 l1 c1 e0 e1 e2 e3 o2 s2 n2 x2 l2 c2 e4 e5 e6 e7 rfl rfl _ _ (by omega) (by omega) (Lib.hid k1) (Lib.hid k3) (Lib.hid hSH)
    · rw [if_neg h7]
      exact wpr_two op s fn _ 2 cap w h0 h1 h2 hn1 hn2 hn3 hn4 h7 (takes_len hk) a hab o1 s1 n1 x1 l1 c1 e0 e1 e2 e3 o2 s2 n2 x2 l2 c2 e4 e5 e6 e7 rfl rfl _ _ (by omega) (by omega) (Lib.hid k2) (Lib.hid k4) (Lib.hid hSH)
set_option maxRecDepth 100000 in
set_option maxHeartbeats 1000000 in
theorem wPrint : ∀ (n : Nat) (t : Tree), szT t ≤ n → ∀ (A : Nat → Prop) (v : Value) (w : World), lenT t ≤ 900000 → PwT w → NodeV A w v t →
    Calls Tryz.prog 9 #[v] w fun e w' => e = .returned (.string (tx (prtT numT t))) ∧ Below w.heap.size w w' := by
  intro n
  induction n with
  | zero => intro t h; cases t; simp only [szT] at h; omega
  | succ n ih =>
    intro t hn A v w hd hp hv
    have hv0 := hv
    obtain ⟨op, fn, s, l⟩ := t
    obtain ⟨x, cap, rfl, hcap, hx, hch⟩ := hv
    have hszl : szL l ≤ n := by simp only [szT] at hn; omega
    have hSH : ∀ W, Below w.heap.size w W → Calls Tryz.prog 24 #[.agg #[.string (tx op), .float .f64 fn, .string (tx s), .slice x l.length cap]] W fun e w' => e = .returned (.bool (decide (takesT op = some l.length))) ∧ Below W.heap.size W w' := fun W hW => wshaped A _ op s fn l W (hv0.below hW)
    by_cases hk : takesT op = some l.length
    · rw [decide_eq_true hk] at hSH
      by_cases h0 : op = wnum
      · rw [prt_num hk h0]; exact wpr_num op s fn x _ cap w h0 hp (Lib.hid hSH)
      · by_cases h1 : op = wtext
        · rw [prt_text hk h0 h1]; exact wpr_text op s fn x _ cap w h0 h1 (by simp only [lenT] at hd; omega) (Lib.hid hSH)
        · by_cases h2 : op = wname
          · rw [prt_name hk h0 h1 h2]; exact wpr_name op s fn x _ cap w h0 h1 h2 (Lib.hid hSH)
          · have kid : ∀ (t0 : Tree) (o1 s1 : ByteArray) (n1 : Nat) (x1 : Option Addr) (l1 c1 : Nat), szT t0 ≤ n → lenT t0 ≤ 900000 → NodeV A w (.agg #[.string o1, .float .f64 n1, .string s1, .slice x1 l1 c1]) t0 → Kid w (.agg #[.string o1, .float .f64 n1, .string s1, .slice x1 l1 c1]) t0.op (prtT numT t0) := fun t0 o1 s1 n1 x1 l1 c1 g1 g2 g3 => by
              have hP : ∀ W, Below w.heap.size w W → Calls Tryz.prog 9 #[.agg #[.string o1, .float .f64 n1, .string s1, .slice x1 l1 c1]] W fun e w' => e = .returned (.string (tx (prtT numT t0))) ∧ Below W.heap.size W w' := fun W hW => ih t0 g1 A _ W g2 (hp.below hW) (g3.below hW)
              have hl := Nat.le_trans (prt_len numT_len t0) g2
              have ho := g3.op
              generalize prtT numT t0 = r at hP hl ⊢
              subst ho
              exact kid_of hl hP
            rcases takes_12' hk h0 h1 h2 with ⟨hl, _⟩ | ⟨hl, _⟩
            · obtain ⟨t0, rfl⟩ := len1 hl
              · obtain ⟨a, rfl⟩ : ∃ a, x = some a := by
                  cases x with
                  | none => have := hx rfl; cases this
                  | some a => exact ⟨a, rfl⟩
                obtain ⟨hab, hns⟩ := hch a rfl
                obtain ⟨o1, n1, s1, x1, l1, c1, e0, e1, e2, e3, hnode⟩ := kid1 hns
                simp only [szL] at hszl
                simp only [lenT, lenL] at hd
                have K := kid t0 o1 s1 n1 x1 l1 c1 (by omega) (by omega) hnode
                rw [prt_one hk h0 h1 h2]
                generalize prtT numT t0 = r0 at K ⊢
                exact wpr_kid1 op s fn a cap w hk h0 h1 h2 t0.op r0 (hab (by intro e; cases e)).2 o1 s1 n1 x1 l1 c1 e0 e1 e2 e3 K hSH
            · obtain ⟨t0, t1, rfl⟩ := len2 hl
              · obtain ⟨a, rfl⟩ : ∃ a, x = some a := by
                  cases x with
                  | none => have := hx rfl; cases this
                  | some a => exact ⟨a, rfl⟩
                obtain ⟨hab, hns⟩ := hch a rfl
                obtain ⟨o1, n1, s1, x1, l1, c1, e0, e1, e2, e3, hnode⟩ := kid1 hns
                obtain ⟨o2, n2, s2, x2, l2, c2, e4, e5, e6, e7, hnode2⟩ := kid2 hns
                simp only [szL] at hszl
                simp only [lenT, lenL] at hd
                have K := kid t0 o1 s1 n1 x1 l1 c1 (by omega) (by omega) hnode
                have K2 := kid t1 o2 s2 n2 x2 l2 c2 (by omega) (by omega) hnode2
                rw [prt_two hk h0 h1 h2]
                generalize prtT numT t0 = r0 at K ⊢
                generalize prtT numT t1 = r9 at K2 ⊢
                exact wpr_kid2 op s fn a cap w hk h0 h1 h2 t0.op r0 t1.op r9 (hab (by intro e; cases e)).2 o1 s1 n1 x1 l1 c1 e0 e1 e2 e3 o2 s2 n2 x2 l2 c2 e4 e5 e6 e7 K K2 hSH
    · rw [decide_eq_false hk] at hSH
      rw [prt_bad hk]
      exact wpr_bad op s fn x _ cap w (Lib.hid hSH)
end Go.Proofs.YtfalcmbjjlgoaaaGreatDoor
/- Well made trees, printed and parsed: plain. -/
namespace Go.Proofs.YtfalcmbjjlgoaaaGreatDoor
open Go.RowKit Go.Shelf
def keyW (s : Bs) : Prop := s = wor ∨ s = wand ∨ s = wnot ∨ s = wlen ∨ s = wabs ∨ s = whas
def wordW (s : Bs) : Prop := isLet (s.getD 0 0) = true ∧ ∀ c ∈ s, isWrd c = true
def inO (op : Bs) : Prop := op = wor ∨ op = wand ∨ isCmp op = true ∨ op = wplus ∨ op = wminus ∨ op = wtimes ∨ op = wover
/-- A tree such as is parsed, its numbers of Q. -/
inductive WF (Q : Nat → Prop) : Tree → Prop
  | num (n : Nat) : Q n → WF Q (.mk wnum n [] [])
  | text (s : Bs) : 39 ∉ s → WF Q (.mk wtext 0 s [])
  | name (s : Bs) : wordW s → ¬ keyW s → WF Q (.mk wname 0 s [])
  | pre (op : Bs) (a : Tree) : (op = wnot ∨ op = wneg ∨ op = wlen ∨ op = wabs) → WF Q a → WF Q (one op a)
  | bin (op : Bs) (a b : Tree) : (op = whas ∨ inO op) → WF Q a → WF Q b → WF Q (two op a b)
/-- A number that is told back. -/
def backN (n : Nat) : Prop := n = valV (numT n) ∧ (∀ c ∈ numT n, isDig c = true) ∧ numT n ≠ [] ∧ (numT n).length ≤ 15
def opTok (op : Bs) : Tok := if op = wor ∨ op = wand then ⟨2, op⟩ else ⟨4, op⟩
theorem lex_infix {op : Bs} (h : inO op) (R : Bs) : lex ([32] ++ op ++ [32] ++ R) = (opTok op :: (lex R).1, (lex R).2) := by
  have key : lex (op ++ ((32 : UInt8) :: R)) = (opTok op :: (lex R).1, (lex R).2) := by
    have hw : ∀ c ∈ ([111, 114] : Bs), isWrd c = true := by decide
    have hw2 : ∀ c ∈ ([97, 110, 100] : Bs), isWrd c = true := by decide
    rcases h with rfl | rfl | h | rfl | rfl | rfl | rfl
    · rw [lex_word _ (by decide) (by decide) (Ebr.cons (.inl rfl)), lex_sp]; rfl
    · rw [lex_word _ (by decide) (by decide) (Ebr.cons (.inl rfl)), lex_sp]; rfl
    · unfold isCmp at h
      rw [decide_eq_true_eq] at h
      rcases h with rfl | rfl | rfl | rfl | rfl | rfl
      · rw [List.cons_append, List.nil_append, lex_s1 _ _ (by decide) (by simp [isTwo]), lex_sp]; rfl
      · rw [lex_s2 33 _ (by decide), lex_sp]; rfl
      · rw [List.cons_append, List.nil_append, lex_s1 _ _ (by decide) (by simp [isTwo]), lex_sp]; rfl
      · rw [lex_s2 60 _ (by decide), lex_sp]; rfl
      · rw [List.cons_append, List.nil_append, lex_s1 _ _ (by decide) (by simp [isTwo]), lex_sp]; rfl
      · rw [lex_s2 62 _ (by decide), lex_sp]; rfl
    all_goals
      refine Eq.trans (lex_s1 _ _ (by decide) rfl) ?_
      refine Eq.trans (b := (_ :: (lex ((32 : UInt8) :: R)).1, (lex ((32 : UInt8) :: R)).2)) rfl ?_
      rw [lex_sp]; rfl
  rw [List.append_assoc, List.append_assoc, List.cons_append, lex_sp]
  exact key
section
variable {V : Bs → Nat}
theorem step_or {k : Nat} {ts t2 r : List Tok} {a b : Tree} (h1 : P V true (k + 2) .and ts = some (a, ⟨2, wor⟩ :: t2)) (h2 : P V true (k + 1) .and t2 = some (b, r)) (hr : ¬ isTok r 2 wor = true) : P V true (k + 3) .or ts = some (two wor a b, r) := by
  rw [show P V true (k + 3) .or ts = (match P V true (k + 2) .and ts with | none => none | some (a, r) => P V true (k + 2) (.orT a) r) from rfl, h1]
  simp only
  rw [show P V true (k + 2) (.orT a) (⟨2, wor⟩ :: t2) = (if isTok (⟨2, wor⟩ :: t2) 2 wor = true then (match adv true (⟨2, wor⟩ :: t2) with | none => none | some t1 => match P V true (k + 1) .and t1 with | none => none | some (b, r) => P V true (k + 1) (.orT (two wor a b)) r) else some (a, ⟨2, wor⟩ :: t2)) from rfl, if_pos (by simp [isTok]), advT]
  simp only
  rw [h2]
  simp only
  rw [show P V true (k + 1) (.orT (two wor a b)) r = (if isTok r 2 wor = true then (match adv true r with | none => none | some t1 => match P V true k .and t1 with | none => none | some (c, r) => P V true k (.orT (two wor (two wor a b) c)) r) else some (two wor a b, r)) from rfl, if_neg hr]
theorem step_and {k : Nat} {ts t2 r : List Tok} {a b : Tree} (h1 : P V true (k + 2) .not ts = some (a, ⟨2, wand⟩ :: t2)) (h2 : P V true (k + 1) .not t2 = some (b, r)) (hr : ¬ isTok r 2 wand = true) : P V true (k + 3) .and ts = some (two wand a b, r) := by
  rw [show P V true (k + 3) .and ts = (match P V true (k + 2) .not ts with | none => none | some (a, r) => P V true (k + 2) (.andT a) r) from rfl, h1]
  simp only
  rw [show P V true (k + 2) (.andT a) (⟨2, wand⟩ :: t2) = (if isTok (⟨2, wand⟩ :: t2) 2 wand = true then (match adv true (⟨2, wand⟩ :: t2) with | none => none | some t1 => match P V true (k + 1) .not t1 with | none => none | some (b, r) => P V true (k + 1) (.andT (two wand a b)) r) else some (a, ⟨2, wand⟩ :: t2)) from rfl, if_pos (by simp [isTok]), advT]
  simp only
  rw [h2]
  simp only
  rw [show P V true (k + 1) (.andT (two wand a b)) r = (if isTok r 2 wand = true then (match adv true r with | none => none | some t1 => match P V true k .not t1 with | none => none | some (c, r) => P V true k (.andT (two wand (two wand a b) c)) r) else some (two wand a b, r)) from rfl, if_neg hr]
theorem step_sum {k : Nat} {ts t2 r : List Tok} {a b : Tree} {op : Bs} (ho : op = [43] ∨ op = [45]) (h1 : P V true (k + 2) .prod ts = some (a, ⟨4, op⟩ :: t2)) (h2 : P V true (k + 1) .prod t2 = some (b, r)) (hr : ¬ (isTok r 4 [43] = true ∨ isTok r 4 [45] = true)) : P V true (k + 3) .sum ts = some (two op a b, r) := by
  rw [show P V true (k + 3) .sum ts = (match P V true (k + 2) .prod ts with | none => none | some (a, r) => P V true (k + 2) (.sumT a) r) from rfl, h1]
  simp only
  rw [show P V true (k + 2) (.sumT a) (⟨4, op⟩ :: t2) = (if isTok (⟨4, op⟩ :: t2) 4 [43] = true ∨ isTok (⟨4, op⟩ :: t2) 4 [45] = true then (match adv true (⟨4, op⟩ :: t2) with | none => none | some t1 => match P V true (k + 1) .prod t1 with | none => none | some (b, r) => P V true (k + 1) (.sumT (two op a b)) r) else some (a, ⟨4, op⟩ :: t2)) from rfl, if_pos (by simpa [isTok] using ho), advT]
  simp only
  rw [h2]
  simp only
  rw [show P V true (k + 1) (.sumT (two op a b)) r = (if isTok r 4 [43] = true ∨ isTok r 4 [45] = true then (match adv true r with | none => none | some t1 => match P V true k .prod t1 with | none => none | some (c, r2) => P V true k (.sumT (two ((r.headD ⟨0, []⟩).s) (two op a b) c)) r2) else some (two op a b, r)) from rfl, if_neg hr]
theorem step_prod {k : Nat} {ts t2 r : List Tok} {a b : Tree} {op : Bs} (ho : op = [42] ∨ op = [47]) (h1 : P V true (k + 2) .signed ts = some (a, ⟨4, op⟩ :: t2)) (h2 : P V true (k + 1) .signed t2 = some (b, r)) (hr : ¬ (isTok r 4 [42] = true ∨ isTok r 4 [47] = true)) : P V true (k + 3) .prod ts = some (two op a b, r) := by
  rw [show P V true (k + 3) .prod ts = (match P V true (k + 2) .signed ts with | none => none | some (a, r) => P V true (k + 2) (.prodT a) r) from rfl, h1]
  simp only
  rw [show P V true (k + 2) (.prodT a) (⟨4, op⟩ :: t2) = (if isTok (⟨4, op⟩ :: t2) 4 [42] = true ∨ isTok (⟨4, op⟩ :: t2) 4 [47] = true then (match adv true (⟨4, op⟩ :: t2) with | none => none | some t1 => match P V true (k + 1) .signed t1 with | none => none | some (b, r) => P V true (k + 1) (.prodT (two op a b)) r) else some (a, ⟨4, op⟩ :: t2)) from rfl, if_pos (by simpa [isTok] using ho), advT]
  simp only
  rw [h2]
  simp only
  rw [show P V true (k + 1) (.prodT (two op a b)) r = (if isTok r 4 [42] = true ∨ isTok r 4 [47] = true then (match adv true r with | none => none | some t1 => match P V true k .signed t1 with | none => none | some (c, r2) => P V true k (.prodT (two ((r.headD ⟨0, []⟩).s) (two op a b) c)) r2) else some (two op a b, r)) from rfl, if_neg hr]
theorem step_cmp {k : Nat} {ts t2 r : List Tok} {a b : Tree} {op : Bs} (h0 : isTok ts 2 wnot = false) (ho : isCmp op = true) (h1 : P V true k .sum ts = some (a, ⟨4, op⟩ :: t2)) (h2 : P V true k .sum t2 = some (b, r)) : P V true (k + 1) .not ts = some (two op a b, r) := by
  simp only [P]
  rw [if_neg (by rw [h0]; decide), h1]
  simp only
  rw [if_pos ⟨trivial, ho⟩, advT]
  simp only
  rw [h2]
end
/-- What stands behind the left part is none of what binds closer. -/
theorem two_par {op : Bs} (hop : inO op) {a b : Tree} {ua ub : List Tok} {pa pb : Bs} (ha : Atm a ua pa) (hb : Atm b ub pb) : Goo (two op a b) (ua ++ (opTok op :: ub)) (pa ++ [32] ++ op ++ [32] ++ pb) where
  lex R hR := by
    rw [show pa ++ [32] ++ op ++ [32] ++ pb ++ R = pa ++ ([32] ++ op ++ [32] ++ (pb ++ R)) by simp]
    rw [ha.lex ([32] ++ op ++ [32] ++ (pb ++ R)) (by rw [List.append_assoc, List.append_assoc, List.cons_append]; exact Ebr.cons (.inl rfl)), lex_infix hop, hb.lex R hR]
    simp
  or n r hr hn := by
    obtain ⟨h1, h2, h3, h4, h5⟩ := hr.all
    simp only [List.length_append, List.length_cons] at hn
    obtain ⟨m, rfl⟩ : ∃ m, n = m + 12 := ⟨n - 12, by omega⟩
    have la : 12 * ua.length + 1 ≤ m := by omega
    have lb : 12 * ub.length + 1 ≤ m := by omega
    rw [show ua ++ (opTok op :: ub) ++ r = ua ++ (opTok op :: (ub ++ r)) by simp]
    have fA : ∀ k, 12 * ua.length + 1 ≤ m + k := fun k => by omega
    have fB : ∀ k, 12 * ub.length + 1 ≤ m + k := fun k => by omega
    rcases hop with rfl | rfl | h | h
    · refine step_or (k := m + 9) (ha.and (n := m + 6) (fA 6) ?_ ?_ ?_ ?_) (hb.and (n := m + 5) (fB 5) h1 h2 h3 h4) h5 <;> simp [noMul, noAdd, noCmp, noAnd, isTok, opTok, wor, wand]
    · refine up_or (n := m + 10) (step_and (k := m + 8) (ha.not (n := m + 6) (fA 6) ?_ ?_ ?_) (hb.not (n := m + 5) (fB 5) h1 h2 h3) h4) h5 <;> simp [noMul, noAdd, noCmp, isTok, opTok, wor, wand]
    · have e : opTok op = ⟨4, op⟩ := by
        unfold opTok
        rw [if_neg]
        rintro (rfl | rfl) <;> exact absurd h (by decide)
      rw [e]
      have hm : noMul (⟨4, op⟩ :: (ub ++ r)) := by
        unfold noMul isTok
        rintro (q | q) <;> · simp at q; subst q; exact absurd h (by decide)
      have had : noAdd (⟨4, op⟩ :: (ub ++ r)) := by
        unfold noAdd isTok
        rintro (q | q) <;> · simp at q; subst q; exact absurd h (by decide)
      exact up_or (n := m + 10) (up_and (n := m + 9) (step_cmp (ha.lead _).1 h (ha.sum (n := m + 6) (fA 6) hm had) (hb.sum (n := m + 6) (fB 6) h1 h2)) h4) h5
    · have e : opTok op = ⟨4, op⟩ := by rcases h with rfl | rfl | rfl | rfl <;> rfl
      rw [e]
      have hsp : (op = [43] ∨ op = [45]) ∨ (op = [42] ∨ op = [47]) := by
        rcases h with h | h | h | h
        · exact .inl (.inl h)
        · exact .inl (.inr h)
        · exact .inr (.inl h)
        · exact .inr (.inr h)
      rcases hsp with h | h
      · have hm : noMul (⟨4, op⟩ :: (ub ++ r)) := by
          unfold noMul isTok
          rcases h with rfl | rfl <;> simp
        exact up_or (n := m + 10) (up_and (n := m + 9) (up_not (n := m + 9) (by rw [(ha.lead _).1]) (step_sum (k := m + 6) h (ha.prod (n := m + 6) (fA 6) hm) (hb.prod (n := m + 5) (fB 5) h1) h2) h3) h4) h5
      · exact up_or (n := m + 10) (up_and (n := m + 9) (up_not (n := m + 9) (by rw [(ha.lead _).1]) (up_sum (n := m + 7) (step_prod (k := m + 5) h (ha.signed (n := m + 6) (fA 6) _) (hb.signed (n := m + 5) (fB 5) r) h1) h2) h3) h4) h5
/-- A rule in its parentheses, or without where it stands by itself. -/
theorem part_of {t : Tree} {us : List Tok} {p : Bs} (h : Goo t us p) (h2 : aloneB t.op = true → Atm t us p) : ∃ vs, Atm t vs (parS t.op p) := by
  unfold parS
  cases q : aloneB t.op
  · exact ⟨_, h.par⟩
  · exact ⟨us, h2 q⟩
theorem lex_not (R : Bs) : lex ([110, 111, 116, 32] ++ R) = (⟨2, wnot⟩ :: (lex R).1, (lex R).2) := by
  have := lex_word (w := wnot) ((32 : UInt8) :: R) (by decide) (by decide) (Ebr.cons (.inl rfl))
  rw [lex_sp] at this
  exact this
theorem lex_neg (R : Bs) : lex ([45] ++ R) = (⟨4, [45]⟩ :: (lex R).1, (lex R).2) := lex_s1 45 R (by decide) (by simp [isTwo])
theorem not_goo {a : Tree} {us : List Tok} {p : Bs} (h : Atm a us p) : Goo (one wnot a) (⟨2, wnot⟩ :: us) ([110, 111, 116, 32] ++ p) where
  lex R hR := by rw [List.append_assoc, lex_not, h.lex R hR]; rfl
  or n r hr hn := by
    obtain ⟨h1, h2, h3, h4, h5⟩ := hr.all
    simp only [List.length_cons] at hn
    obtain ⟨m, rfl⟩ : ∃ m, n = m + 12 := ⟨n - 12, by omega⟩
    refine up_or (n := m + 10) (up_and (n := m + 9) ?_ h4) h5
    have := h.not (n := m + 5) (by omega) h1 h2 h3
    generalize hk : m + 9 = k at this ⊢
    simp only [P]
    rw [if_pos (by simp [isTok]), List.cons_append, advT]
    simp only
    rw [this]
theorem neg_goo {a : Tree} {us : List Tok} {p : Bs} (h : Atm a us p) : Goo (one wneg a) (⟨4, [45]⟩ :: us) ([45] ++ p) where
  lex R hR := by rw [List.append_assoc, lex_neg, h.lex R hR]; rfl
  or n r hr hn := by
    obtain ⟨h1, h2, h3, h4, h5⟩ := hr.all
    simp only [List.length_cons] at hn
    obtain ⟨m, rfl⟩ : ∃ m, n = m + 12 := ⟨n - 12, by omega⟩
    refine up_or (n := m + 10) (up_and (n := m + 9) (up_not (n := m + 9) (by simp [isTok]) (up_sum (n := m + 7) (up_prod (n := m + 6) ?_ h1) h2) h3) h4) h5
    have := h.signed (n := m + 5) (by omega) r
    generalize hk : m + 6 = k at this ⊢
    simp only [P]
    rw [if_pos (by simp [isTok]), List.cons_append, advT]
    simp only
    rw [this]
theorem fun_atm {op : Bs} (ho : op = wlen ∨ op = wabs) {a : Tree} {us : List Tok} {p : Bs} (h : Goo a us p) : Atm (one op a) (⟨2, op⟩ :: ⟨4, [40]⟩ :: (us ++ [⟨4, [41]⟩])) (op ++ [40] ++ p ++ [41]) where
  lex R hR := by
    rw [show op ++ [40] ++ p ++ [41] ++ R = op ++ ((40 : UInt8) :: (p ++ ((41 : UInt8) :: R))) by simp]
    rw [lex_word _ (by rcases ho with rfl | rfl <;> decide) (by rcases ho with rfl | rfl <;> decide) (Ebr.cons (.inr (.inl rfl))), lex_par h.lex]
    simp
  lead r := by rcases ho with rfl | rfl <;> exact ⟨by unfold isTok; simp [wlen, wabs, wnot], by unfold isTok; simp⟩
  atom n r hn := by
    obtain ⟨m, rfl⟩ : ∃ m, n = m + 1 := ⟨n - 1, by omega⟩
    have := inside_goo h (n := m) (by simp at hn; omega) r
    rw [List.cons_append, P_atom, if_neg (by simp), if_neg (by simp), if_pos rfl]
    unfold namedP
    rw [if_neg (by rcases ho with rfl | rfl <;> decide), advT]
    simp only
    rw [if_pos ho, show ⟨4, [40]⟩ :: (us ++ [⟨4, [41]⟩]) ++ r = ⟨4, [40]⟩ :: (us ++ (⟨4, [41]⟩ :: r)) by simp, this]
theorem has_atm {a b : Tree} {us vs : List Tok} {p q : Bs} (h : Goo a us p) (g : Goo b vs q) : Atm (two whas a b) (⟨2, whas⟩ :: ⟨4, [40]⟩ :: (us ++ (⟨4, [44]⟩ :: (vs ++ [⟨4, [41]⟩])))) ([104, 97, 115, 40] ++ p ++ [44, 32] ++ q ++ [41]) where
  lex R hR := by
    rw [show [104, 97, 115, 40] ++ p ++ [44, 32] ++ q ++ [41] ++ R = whas ++ ((40 : UInt8) :: (p ++ ((44 : UInt8) :: ((32 : UInt8) :: (q ++ ((41 : UInt8) :: R)))))) by simp [whas]]
    rw [lex_word _ (by decide) (by decide) (Ebr.cons (.inr (.inl rfl))), lex_s1 40 _ (by decide) (by unfold isTwo; simp), h.lex _ (Ebr.cons (.inr (.inr (.inr rfl)))), lex_s1 44 _ (by decide) (by unfold isTwo; simp), lex_sp, g.lex _ (Ebr.cons (.inr (.inr (.inl rfl)))), lex_s1 41 _ (by decide) (by unfold isTwo; simp)]
    simp
  lead r := ⟨by unfold isTok; simp [whas, wnot], by unfold isTok; simp⟩
  atom n r hn := by
    obtain ⟨m, rfl⟩ : ∃ m, n = m + 1 := ⟨n - 1, by omega⟩
    simp only [List.length_append, List.length_cons, List.length_nil] at hn
    have e1 := h.or m (⟨4, [44]⟩ :: (vs ++ (⟨4, [41]⟩ :: r))) (.inr ⟨_, .inr rfl⟩) (by omega)
    have e2 := g.or m (⟨4, [41]⟩ :: r) (.inr ⟨_, .inl rfl⟩) (by omega)
    rw [List.cons_append, P_atom, if_neg (by simp), if_neg (by simp), if_pos rfl]
    unfold namedP
    rw [if_neg (by decide), advT]
    simp only
    rw [if_neg (by decide), if_pos trivial]
    rw [show ⟨4, [40]⟩ :: (us ++ (⟨4, [44]⟩ :: (vs ++ [⟨4, [41]⟩]))) ++ r = ⟨4, [40]⟩ :: (us ++ (⟨4, [44]⟩ :: (vs ++ (⟨4, [41]⟩ :: r)))) by simp]
    unfold hasP
    rw [mustT]
    simp only
    rw [e1]
    simp only
    rw [mustT]
    simp only
    rw [e2]
    simp only
    rw [mustT]
theorem num_atm {n : Nat} (h : backN n) : Atm (.mk wnum n [] []) [⟨1, numT n⟩] (numT n) where
  lex R hR := lex_num R h.2.1 h.2.2.1 h.2.2.2 hR
  lead r := ⟨by simp [isTok], by simp [isTok]⟩
  atom k r hk := by
    obtain ⟨m, rfl⟩ : ∃ m, k = m + 1 := ⟨k - 1, by omega⟩
    rw [List.cons_append, P_atom, if_pos rfl, advT]
    simp only
    rw [← h.1]
    rfl
theorem text_atm {s : Bs} (h : 39 ∉ s) : Atm (.mk wtext 0 s []) [⟨3, s⟩] ([39] ++ s ++ [39]) where
  lex R _ := lex_text R h
  lead r := ⟨by simp [isTok], by simp [isTok]⟩
  atom k r hk := by
    obtain ⟨m, rfl⟩ : ∃ m, k = m + 1 := ⟨k - 1, by omega⟩
    rw [List.cons_append, P_atom, if_neg (by simp), if_pos rfl, advT]
    rfl
theorem name_atm {s : Bs} (h : wordW s) (hk : ¬ keyW s) : Atm (.mk wname 0 s []) [⟨2, s⟩] s where
  lex R hR := lex_word R h.1 h.2 hR
  lead r := ⟨by
    have : s ≠ wnot := fun e => hk (.inr (.inr (.inl e)))
    simpa [isTok] using this, by simp [isTok]⟩
  atom k r _ := by
    obtain ⟨m, rfl⟩ : ∃ m, k = m + 1 := ⟨k - 1, by omega⟩
    unfold keyW at hk
    rw [List.cons_append, P_atom, if_neg (by simp), if_neg (by simp), if_pos rfl]
    unfold namedP
    rw [if_neg (fun e => hk (by rcases e with e | e | e; exact .inl e; exact .inr (.inl e); exact .inr (.inr (.inl e)))), advT]
    simp only
    rw [if_neg (fun e => hk (by rcases e with e | e; exact .inr (.inr (.inr (.inl e))); exact .inr (.inr (.inr (.inr (.inl e)))))), if_neg (fun e => hk (.inr (.inr (.inr (.inr (.inr e))))))]
    rfl
theorem infix_facts {op : Bs} (h : inO op) : takesT op = some 2 ∧ op ≠ wnum ∧ op ≠ wtext ∧ op ≠ wname ∧ op ≠ whas ∧ aloneB op = false := by
  rcases h with rfl | rfl | h | rfl | rfl | rfl | rfl
  · decide
  · decide
  · unfold isCmp at h
    rw [decide_eq_true_eq] at h
    rcases h with rfl | rfl | rfl | rfl | rfl | rfl <;> decide
  all_goals decide
theorem wf_parse {t : Tree} (h : WF backN t) : ∃ us, Goo t us (prtT numT t) ∧ (aloneB t.op = true → Atm t us (prtT numT t)) := by
  induction h with
  | num n hn =>
    rw [prt_num (l := []) rfl rfl]
    exact ⟨_, (num_atm hn).goo, fun _ => num_atm hn⟩
  | text s hs =>
    rw [prt_text (l := []) rfl (by decide) rfl]
    exact ⟨_, (text_atm hs).goo, fun _ => text_atm hs⟩
  | name s h1 h2 =>
    rw [prt_name (l := []) rfl (by decide) (by decide) rfl]
    exact ⟨_, (name_atm h1 h2).goo, fun _ => name_atm h1 h2⟩
  | pre op a ho _ ih =>
    obtain ⟨us, h1, h2⟩ := ih
    obtain ⟨vs, h3⟩ := part_of h1 h2
    have hk : takesT op = some 1 ∧ op ≠ wnum ∧ op ≠ wtext ∧ op ≠ wname := by rcases ho with rfl | rfl | rfl | rfl <;> decide
    unfold one
    rw [prt_one hk.1 hk.2.1 hk.2.2.1 hk.2.2.2]
    rcases ho with rfl | rfl | ho
    · rw [if_pos rfl]
      exact ⟨_, not_goo h3, fun e => by cases e⟩
    · rw [if_neg (by decide), if_pos rfl]
      exact ⟨_, neg_goo h3, fun e => by cases e⟩
    · rw [if_neg (by rcases ho with rfl | rfl <;> decide), if_neg (by rcases ho with rfl | rfl <;> decide)]
      exact ⟨_, (fun_atm ho h1).goo, fun _ => fun_atm ho h1⟩
  | bin op a b ho _ _ iha ihb =>
    obtain ⟨us, h1, h2⟩ := iha
    obtain ⟨vs, g1, g2⟩ := ihb
    unfold two
    rcases ho with rfl | ho
    · rw [prt_two rfl (by decide) (by decide) (by decide), if_pos rfl]
      exact ⟨_, (has_atm h1 g1).goo, fun _ => has_atm h1 g1⟩
    · obtain ⟨k0, k1, k2, k3, k4, k5⟩ := infix_facts ho
      obtain ⟨us2, h3⟩ := part_of h1 h2
      obtain ⟨vs2, g3⟩ := part_of g1 g2
      rw [prt_two k0 k1 k2 k3, if_neg k4]
      exact ⟨_, two_par ho h3 g3, fun e => by rw [show (Tree.mk op 0 [] [a, b]).op = op from rfl, k5] at e; cases e⟩
/-- What is printed is read as it was. -/
theorem wf_read {t : Tree} (h : WF backN t) : readP (prtT numT t) = some t := by
  obtain ⟨us, hg, _⟩ := wf_parse h
  have hl := hg.lex [] Ebr.nil
  rw [List.append_nil, show lex [] = ([], true) from rfl, List.append_nil] at hl
  unfold readP
  rw [hl, if_neg (fun e => by cases e.2)]
  have := hg.or (12 * us.length + 11) [] (.inl rfl) (Nat.le_refl _)
  rw [List.append_nil] at this
  simp only
  rw [this]
end Go.Proofs.YtfalcmbjjlgoaaaGreatDoor
