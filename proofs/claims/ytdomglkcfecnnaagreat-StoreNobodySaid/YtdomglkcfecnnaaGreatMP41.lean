/- Own texts, merged: DL, Y4, YC, V1, Y3, Y7. -/
import Derived.Laws.Rows
import Derived.OrdersHeld
import Derived.Laws.CopyOwn
import Derived.Test.YtdomglkcfecnnaaGreatH0
import Derived.Test.YtdomglkcfecnnaaGreatH9
import Derived.Test.YtdomglkcfecnnaaGreatMP21
import Derived.Test.YtdomglkcfecnnaaGreatMP37
import Derived.Test.YtdomglkcfecnnaaGreatMP38
import Derived.Test.YtdomglkcfecnnaaGreatMP40
/- Loads and stores of whole fields, each as one step. -/
namespace Go.Proofs.YtdomglkcfecnnaaGreat
open Go Go.RowKit Go.Shelf
/-- A field's cells stand at an address. -/
def FLC (w : World) (b q : Nat) (F : FL) : Prop := ∀ j u, F.a[j]? = some u → w.cell? ⟨b, q + j, none⟩ = some u
theorem FLB.flc {w : World} {b : Nat} {F : FL} (h : FLB w b F) : FLC w b 0 F := fun j u hu => by
  unfold FLB at h
  simp only [World.cell?, h, Nat.zero_add]
  exact hu
theorem FLC.below {w W : World} {b q : Nat} {F : FL} (h : FLC w b q F) (hb : Below w.heap.size w W) : FLC W b q F := fun j u hu => by
  have h1 := h j u hu
  exact (hb.cell (p := ⟨b, q + j, none⟩) (World.block_lt_of_cell? w _ h1)).trans h1
theorem run_ldF {w : World} {b q : Nat} {F : FL} (h : FLC w b q F) : (loadVar 66 ⟨b, q, none⟩).run Tryz.prog w = .ok F.v w := by
  have hl : (loadCells ⟨b, q, none⟩ F.a.toList.length).run Tryz.prog w = .ok F.a.toList.toArray w :=
    run_loadCells_list (P := Tryz.prog) w ⟨b, q, none⟩ F.a.toList (fun j v hv => by
      have hadd : (⟨b, q, none⟩ : Addr).add j = ⟨b, q + j, none⟩ := by unfold Addr.add; split <;> simp_all
      rw [hadd]
      exact h j v (by rw [← hv, Array.getElem?_toList]))
  rw [show F.a.toList.length = 16 from rfl, Array.toArray_toList] at hl
  simp [loadVar, hl]
  rfl
section
variable {ops : Array Oper} {rest : List Oper} {o : Oper} {a : Act} {w : World} {Q : Exit → Act → World → Prop}
theorem wp_ldF {K : Act → World → Prop} {b q : Nat} {F : FL} {x : Operand} (ho : o.op = .load 66 x) (hx : a.eval x = .pointer (some ⟨b, q, none⟩)) (h : FLC w b q F) (hK : K (a.put o.dst F.v) w) : o.wp Tryz.prog a w K Q := by
  unfold Oper.wp execOp
  simp only [ho, hx, Instr.loadAt, Instr.sureAddr, Sem.run_bind, Sem.run_pure, Result.andThen_ok, run_ldF h]
  exact hK
theorem wpList_ldF {b q : Nat} {F : FL} {x : Operand} (hgd : o.guard = none) (ho : o.op = .load 66 x) (hx : a.eval x = .pointer (some ⟨b, q, none⟩)) (h : FLC w b q F) (hK : wpList Tryz.prog ops Q rest (a.put o.dst F.v) w) : wpList Tryz.prog ops Q (o :: rest) a w :=
  wpList_plain hgd fun _ hK' => wp_ldF ho hx h (hK' _ _ hK)
end
theorem yieldsF {ops : Array Oper} {S : World → Prop} {o : Oper} {a : Act} {b q : Nat} {F : FL} {x : Operand} (hgd : o.guard = none) (ho : o.op = .load 66 x) (hx : a.eval x = .pointer (some ⟨b, q, none⟩)) (hS : ∀ w, S w → FLC w b q F) : YieldsIf Tryz.prog ops S o F.v a :=
  .inl ⟨by simp [Region.wanted, hgd], fun w hw => by
    unfold execOp
    simp only [ho, hx, Instr.loadAt, Instr.sureAddr, Sem.run_bind, Sem.run_pure, Result.andThen_ok, run_ldF (hS w hw)]⟩
theorem FL.one (F : FL) : F.a.all (·.oneCell') = true := by simp [FL.a, Value.oneCell']
theorem infoF : (Tryz.prog.info? 66).map (·.size) = some 16 := by kernel_rfl
/-- A field's variable is given other letters. -/
theorem FLB.row {w : World} {b : Nat} {G : FL} (h : FLB w b G) (F : FL) : FLB (w.setRow b F.a) b F := setRow_heap w b _ _ _ _ h
theorem wpList_stF {ops : Array Oper} {rest : List Oper} {o : Oper} {a : Act} {w : World} {Q : Exit → Act → World → Prop} {b : Nat} {F G : FL} {x y : Operand} (hgd : o.guard = none) (ho : o.op = .store 66 x y) (hx : a.eval x = .pointer (some ⟨b, 0, none⟩)) (hy : a.eval y = F.v) (h : FLB w b G)
    (hK : wpList Tryz.prog ops Q rest (a.put o.dst undef) (w.setRow b F.a)) : wpList Tryz.prog ops Q (o :: rest) a w :=
  wpList_store_row hgd 66 x y ho b F.a hx hy 66 G.a h infoF rfl F.one hK
end Go.Proofs.YtdomglkcfecnnaaGreat
/- The page's example: its form, its value. -/
namespace Go.Proofs.YtdomglkcfecnnaaGreat
open Go.RowKit Go.Shelf
def exB : Fld := ⟨5, [97], [65], [], 0, 0, 0, 0, 0, ⟨[], 0, false, [], 0⟩, [], []⟩
def exBL : FL := exB.fl none 0 none 0
def exV : Vle := ⟨[], 0, true, [], 0⟩
def exVa : Array Value := #[.string ⟨#[]⟩, .int .i64 0, .bool true, .slice none 0 0, .float .f64 0]
set_option maxRecDepth 100000 in
theorem exB_value : valueP exB exV = true := by kernel_rfl
theorem exB_ok : FOk exB := ⟨by decide, fun i hi => absurd hi (by simp [exB]), by decide, by decide, by decide, ⟨by decide, by decide, by decide⟩⟩
theorem exV_ok : VOk exV := ⟨by decide, by decide, by decide⟩
theorem exValue (W : World) : Calls Tryz.prog 26 #[exBL.v, .agg exVa] W fun e w' => e = .returned (.bool true) ∧ Below W.heap.size W w' := by
  have h := dValue exB exB_ok none 0 none 0 exV exV_ok none 0 W (TxV.nil W) (IntV.nil W)
  rw [exB_value] at h
  exact h
end Go.Proofs.YtdomglkcfecnnaaGreat
/- The page's example: its form may be. -/
namespace Go.Proofs.YtdomglkcfecnnaaGreat
open Go.RowKit Go.Shelf
def exBD : Des := ⟨[], [exB], [], 1⟩
set_option maxRecDepth 100000 in
theorem exB_check : checkP exBD = (-1, 0) := by kernel_rfl
theorem exBD_ok : DOk exBD := ⟨by decide, fun i hi => by
  obtain rfl : i = 0 := by simp [exBD] at hi; omega
  exact exB_ok, fun j hj => absurd hj (by simp [exBD])⟩
theorem exB_mem (w : World) : FM w exB none 0 none 0 := ⟨TxV.nil w, IntV.nil w⟩
theorem exBD_mem {w : World} {b : Nat} (h : FLB w b exBL) : DM w exBD [exBL] (some ⟨b, 0, none⟩) b 0 1 none 0 := by
  refine ⟨rfl, by decide, fun _ => ⟨rfl, h.lt, fun i hi j u hu => ?_⟩, fun i hi => ⟨none, 0, none, 0, ?_, ?_⟩, TxV.nil w⟩
  · obtain rfl : i = 0 := by simp at hi; omega
    have h' := h
    unfold FLB at h'
    simp only [Nat.zero_mul, Nat.zero_add, World.cell?, h']
    simpa using hu
  · obtain rfl : i = 0 := by simp at hi; omega
    rfl
  · obtain rfl : i = 0 := by simp at hi; omega
    exact exB_mem w
theorem exCheck {W : World} {q : Nat} (h : FLB W q exBL) : Calls Tryz.prog 19 #[.agg #[.string ⟨#[]⟩, .slice (some ⟨q, 0, none⟩) 1 1, .slice none 0 0, .int .i64 1]] W fun e w' => e = .returned (.tuple #[.int .i64 (-1), .int .i64 0]) ∧ Below W.heap.size W w' := by
  have h := dCheck exBD exBD_ok [exBL] _ _ _ _ _ _ W (exBD_mem h)
  rw [exB_check] at h
  exact h
end Go.Proofs.YtdomglkcfecnnaaGreat
/- What package store answers: sums, numbers and texts as bytes. No program in sight. -/
namespace Go.Proofs.YtdomglkcfecnnaaGreat
/-! ### Sums -/
def sumStep (p : Nat × Nat) (c : UInt8) : Nat × Nat := ((p.1 + c.toNat) % 65521, (p.2 + (p.1 + c.toNat) % 65521) % 65521)
def sumP (l : List UInt8) : Nat × Nat := l.foldl sumStep (1, 0)
def byB (n : Nat) : UInt8 := UInt8.ofNat n
theorem byB_toNat {n : Nat} (h : n < 256) : (byB n).toNat = n := by unfold byB; rw [UInt8.toNat_ofNat']; omega
theorem byB_inj {a b : Nat} (ha : a < 256) (hb : b < 256) (h : byB a = byB b) : a = b := by
  rw [← byB_toNat ha, ← byB_toNat hb, h]
/-- The sum of bytes: four bytes. -/
def sumS (l : List UInt8) : List UInt8 := [byB ((sumP l).2 / 256), byB ((sumP l).2 % 256), byB ((sumP l).1 / 256), byB ((sumP l).1 % 256)]
theorem sumS_len (l : List UInt8) : (sumS l).length = 4 := rfl
theorem sumStep_lt (p : Nat × Nat) (c : UInt8) : (sumStep p c).1 < 65521 ∧ (sumStep p c).2 < 65521 := ⟨Nat.mod_lt _ (by decide), Nat.mod_lt _ (by decide)⟩
theorem sum_fold_lt : ∀ (l : List UInt8) (p : Nat × Nat), p.1 < 65521 → p.2 < 65521 → (l.foldl sumStep p).1 < 65521 ∧ (l.foldl sumStep p).2 < 65521
  | [], _, h1, h2 => ⟨h1, h2⟩
  | c :: r, p, _, _ => sum_fold_lt r (sumStep p c) (sumStep_lt p c).1 (sumStep_lt p c).2
theorem sumP_lt (l : List UInt8) : (sumP l).1 < 65521 ∧ (sumP l).2 < 65521 := sum_fold_lt l (1, 0) (by decide) (by decide)
theorem sumS_inj {a b : List UInt8} (h : sumS a = sumS b) : sumP a = sumP b := by
  have ha := sumP_lt a
  have hb := sumP_lt b
  unfold sumS at h
  simp only [List.cons.injEq, and_true] at h
  obtain ⟨h1, h2, h3, h4⟩ := h
  have e1 := byB_inj (by omega) (by omega) h1
  have e2 := byB_inj (by omega) (by omega) h2
  have e3 := byB_inj (by omega) (by omega) h3
  have e4 := byB_inj (by omega) (by omega) h4
  ext <;> omega
/-- The first sum says how the bytes add up. -/
theorem sum_fst : ∀ (l : List UInt8) (p : Nat × Nat), (l.foldl sumStep p).1 % 65521 = (p.1 + (l.map UInt8.toNat).sum) % 65521
  | [], p => by simp
  | c :: r, p => by
    rw [List.foldl_cons, sum_fst r]
    simp only [sumStep, List.map_cons, List.sum_cons]
    omega
/-- One byte that is another one makes another sum. -/
theorem sum_turn {l r : List UInt8} {a b : UInt8} (h : a ≠ b) : sumP (l ++ a :: r) ≠ sumP (l ++ b :: r) := fun e => by
  have h1 := sum_fst (l ++ a :: r) (1, 0)
  have h2 := sum_fst (l ++ b :: r) (1, 0)
  unfold sumP at e
  rw [e] at h1
  simp only [List.map_append, List.map_cons, List.sum_append, List.sum_cons] at h1 h2
  have ha := a.toNat_lt
  have hb := b.toNat_lt
  have : a.toNat = b.toNat := by omega
  exact h (UInt8.toNat_inj.1 this)
/-- What two beginnings lead to: the first sums stay apart as they were, the second ones by so much for each byte. -/
theorem sum_snd : ∀ (l : List UInt8) (p : Nat × Nat), (l.foldl sumStep p).2 % 65521 = (p.2 + (l.foldl sumStep (p.1, 0)).2) % 65521
  | [], p => by simp
  | c :: r, p => by
    have h1 := sum_snd r (sumStep p c)
    have h2 := sum_snd r (sumStep (p.1, 0) c)
    have e : (sumStep (p.1, 0) c).1 = (sumStep p c).1 := rfl
    rw [e] at h2
    rw [List.foldl_cons, List.foldl_cons]
    have e1 : (sumStep p c).2 = (p.2 + (p.1 + c.toNat) % 65521) % 65521 := rfl
    have e2 : (sumStep (p.1, 0) c).2 = (0 + (p.1 + c.toNat) % 65521) % 65521 := rfl
    omega
theorem fold_congr : ∀ (l : List UInt8) (x y y' : Nat), (l.foldl sumStep (x, y)).1 = (l.foldl sumStep (x, y')).1
  | [], _, _, _ => rfl
  | c :: r, x, y, y' => by
    rw [List.foldl_cons, List.foldl_cons]
    exact fold_congr r _ _ _
/-- Two bytes that stand side by side and are exchanged make another sum. -/
theorem sum_swap {l r : List UInt8} {a b : UInt8} (h : a ≠ b) : sumP (l ++ a :: b :: r) ≠ sumP (l ++ b :: a :: r) := fun e => by
  unfold sumP at e
  rw [List.foldl_append, List.foldl_append] at e
  obtain ⟨p, hp⟩ : ∃ p, p = l.foldl sumStep (1, 0) := ⟨_, rfl⟩
  rw [← hp] at e
  simp only [List.foldl_cons] at e
  have hx : (sumStep (sumStep p a) b).1 = (sumStep (sumStep p b) a).1 := by simp only [sumStep]; omega
  have e2 := congrArg Prod.snd e
  have s1 := sum_snd r (sumStep (sumStep p a) b)
  have s2 := sum_snd r (sumStep (sumStep p b) a)
  rw [hx] at s1
  rw [e2] at s1
  have ha := a.toNat_lt
  have hb := b.toNat_lt
  have h3 : (sumStep (sumStep p a) b).2 % 65521 = (sumStep (sumStep p b) a).2 % 65521 := by omega
  simp only [sumStep] at h3
  have : a.toNat = b.toNat := by omega
  exact h (UInt8.toNat_inj.1 this)
/-! ### Numbers -/
/-- A number's bytes. -/
def numS (n : Nat) : List UInt8 := if n < 128 then [byB n] else byB (n % 128 + 128) :: numS (n / 128)
termination_by n
decreasing_by omega
/-- The number that bytes begin with, of at most so many of them; and what stands behind it. -/
def numG : Nat → Bool → List UInt8 → Option (Nat × List UInt8)
  | 0, _, _ => none
  | _ + 1, _, [] => none
  | k + 1, first, c :: r => if 128 ≤ c.toNat then (numG k false r).map (fun p => (c.toNat - 128 + 128 * p.1, p.2)) else if c.toNat = 0 ∧ first = false then none else some (c.toNat, r)
theorem numG_of : ∀ (k n : Nat) (f : Bool) (r : List UInt8), n < 128 ^ k → (f = false → 0 < n) → k ≠ 0 → numG k f (numS n ++ r) = some (n, r)
  | 0, n, f, r, h, hf, h0 => absurd rfl h0
  | k + 1, n, f, r, h, hf, _ => by
    unfold numS
    by_cases hn : n < 128
    · rw [if_pos hn]
      simp only [List.cons_append, List.nil_append, numG, byB_toNat (show n < 256 by omega)]
      rw [if_neg (by omega), if_neg (by rintro ⟨h1, h2⟩; have := hf h2; omega)]
    · rw [if_neg hn]
      simp only [List.cons_append, numG, byB_toNat (show n % 128 + 128 < 256 by omega)]
      rw [if_pos (by omega), numG_of k (n / 128) false r (by rw [Nat.pow_succ] at h; omega) (fun _ => by omega) (by rintro rfl; simp at h; omega)]
      simp only [Option.map_some, Option.some.injEq, Prod.mk.injEq, and_true]
      omega
/-- What was read, written, is what stood there. -/
theorem numG_back : ∀ (k : Nat) (f : Bool) (l : List UInt8) (n : Nat) (r : List UInt8), numG k f l = some (n, r) → l = numS n ++ r ∧ n < 128 ^ k ∧ (f = false → 0 < n)
  | 0, _, _, _, _, h => by simp [numG] at h
  | _ + 1, _, [], _, _, h => by simp [numG] at h
  | k + 1, f, c :: t, n, r, h => by
    unfold numG at h
    by_cases hc : 128 ≤ c.toNat
    · rw [if_pos hc] at h
      cases hg : numG k false t with
      | none => rw [hg] at h; cases h
      | some p =>
        rw [hg] at h
        simp only [Option.map_some, Option.some.injEq, Prod.mk.injEq] at h
        obtain ⟨rfl, rfl⟩ := h
        obtain ⟨h1, h2, h3⟩ := numG_back k false t p.1 p.2 hg
        have h4 := h3 rfl
        have hlt := c.toNat_lt
        refine ⟨?_, by rw [Nat.pow_succ]; omega, fun _ => by omega⟩
        rw [numS, if_neg (by omega), show (c.toNat - 128 + 128 * p.1) / 128 = p.1 by omega, show (c.toNat - 128 + 128 * p.1) % 128 + 128 = c.toNat by omega, h1]
        simp [byB]
    · rw [if_neg hc] at h
      by_cases hz : c.toNat = 0 ∧ f = false
      · rw [if_pos hz] at h; cases h
      · rw [if_neg hz] at h
        simp only [Option.some.injEq, Prod.mk.injEq] at h
        obtain ⟨rfl, rfl⟩ := h
        refine ⟨?_, by rw [Nat.pow_succ]; have : 0 < 128 ^ k := Nat.pow_pos (by decide); omega, fun hf => Nat.pos_of_ne_zero (fun e => hz ⟨e, hf⟩)⟩
        rw [numS, if_pos (by omega)]
        simp [byB]
/-! ### Texts -/
def textS (s : List UInt8) : List UInt8 := numS s.length ++ s
def textG (l : List UInt8) : Option (List UInt8 × List UInt8) :=
  match numG 9 true l with
  | none => none
  | some (n, r) => if n ≤ r.length then some (r.take n, r.drop n) else none
theorem textG_of (s r : List UInt8) (h : s.length < 9223372036854775808) : textG (textS s ++ r) = some (s, r) := by
  unfold textG textS
  rw [List.append_assoc, numG_of 9 s.length true (s ++ r) (by simpa using h) (fun e => by cases e) (by decide)]
  simp
theorem textG_back {l s r : List UInt8} (h : textG l = some (s, r)) : l = textS s ++ r := by
  unfold textG at h
  cases hg : numG 9 true l with
  | none => rw [hg] at h; cases h
  | some p =>
    obtain ⟨n, t⟩ := p
    rw [hg] at h
    dsimp only at h
    by_cases hn : n ≤ t.length
    · rw [if_pos hn] at h
      simp only [Option.some.injEq, Prod.mk.injEq] at h
      obtain ⟨rfl, rfl⟩ := h
      obtain ⟨h1, _, _⟩ := numG_back 9 true l n t hg
      unfold textS
      rw [List.append_assoc, List.take_append_drop, List.length_take, Nat.min_eq_left hn]
      exact h1
    · rw [if_neg hn] at h; cases h
end Go.Proofs.YtdomglkcfecnnaaGreat
/- Walks: the sum of bytes, a number's and a text's bytes. -/
namespace Go.Proofs.YtdomglkcfecnnaaGreat
open Go.RowKit Go.Shelf
def u8V (c : UInt8) : Value := .int .u8 (c.toNat : Nat)
/-- Bytes in memory. -/
def BV (w : World) (x : Option Addr) (l : List UInt8) : Prop := 0 < l.length → ∃ b off, x = some ⟨b, off, none⟩ ∧ b < w.heap.size ∧ ∀ i, i < l.length → w.cell? ⟨b, off + i, none⟩ = some (.int .u8 ((l.getD i 0).toNat : Nat))
theorem BV.keep {w w' : World} {x : Option Addr} {l : List UInt8} (h : BV w x l) (hB : Below w.heap.size w w') : BV w' x l := fun hp => by
  obtain ⟨b, off, rfl, hb, hc⟩ := h hp
  exact ⟨b, off, rfl, Nat.lt_of_lt_of_le hb hB.size, fun i hi => (hB.cell (p := ⟨b, off + i, none⟩) hb).trans (hc i hi)⟩
theorem BV.nil (w : World) (x : Option Addr) : BV w x [] := fun h => absurd h (by simp)
theorem sum_take (l : List UInt8) (k : Nat) (h : k < l.length) : sumP (l.take (k + 1)) = sumStep (sumP (l.take k)) (l.getD k 0) := by
  unfold sumP
  rw [List.take_succ_eq_append_getElem h, List.foldl_append]
  simp [h]
set_option maxHeartbeats 2000000 in
theorem wSum (x : Option Addr) (l : List UInt8) (c : Nat) (w : World) (hx : BV w x l) (hl : l.length ≤ 4611686018427387904) :
    Calls Tryz.prog 18 #[.slice x l.length c] w fun e w' => e = .returned (.slice (some ⟨w.heap.size, 0, none⟩) 4 4) ∧ w' = w.alloc (.cells ((sumS l).map u8V).toArray 5) := by
  have HX := Lib.hid hx
  obtain ⟨n, hn⟩ : ∃ n, n = l.length := ⟨_, rfl⟩
  have HN := Lib.hid hn
  rw [← hn] at hl ⊢
  clear hx hn
  go_enter Tryz.func18, Tryz.ntmps18
  go_wp2
  go_loop [3, 4, 9] (fun a b i => ∃ k : Nat, k ≤ n ∧ i = .int .i64 (k : Int) ∧ ∃ X Y : Nat, a = .int .i64 (X : Int) ∧ b = .int .i64 (Y : Int) ∧ X < 65521 ∧ Y < 65521 ∧ Hid (sumP (l.take k) = (X, Y))) (fun _ _ i => n - (intOf i).toNat)
  case atStart => exact ⟨0, by omega, rfl, 1, 0, rfl, rfl, by omega, by omega, Lib.hid rfl⟩
  case round =>
    obtain ⟨k, hk, rfl, X, Y, rfl, rfl, hX, hY, HS⟩ := hrel
    by_cases hlt : k < n
    · have hltz : (k : Int) < (n : Int) := by omega
      obtain ⟨b, off, rfl, hb, hc⟩ := HX.out (by rw [← HN.out]; omega)
      have hck := hc k (by rw [← HN.out]; exact hlt)
      obtain ⟨C, hC⟩ : ∃ C, l.getD k 0 = C := ⟨_, rfl⟩
      rw [hC] at hck
      have HE : Hid (sumP (l.take (k + 1)) = sumStep (X, Y) C) := Lib.hid (by rw [sum_take l k (by rw [← HN.out]; exact hlt), HS.out, hC])
      have hC2 := C.toNat_lt
      clear hc hC
      go_wp2
      go_round
      case rel =>
        refine ⟨k + 1, by omega, by go_num, (X + C.toNat) % 65521, (Y + (X + C.toNat) % 65521) % 65521, by congr 1, by congr 1, by omega, by omega, HE⟩
      case measure => simp [intOf]; omega
    · obtain rfl : k = n := by omega
      have hltz : ¬ (k : Int) < (k : Int) := by omega
      have HS2 : Hid (sumS l = [byB (Y / 256), byB (Y % 256), byB (X / 256), byB (X % 256)]) := Lib.hid (by
        have h := HS.out
        rw [List.take_of_length_le (by rw [← HN.out]; exact Nat.le_refl _)] at h
        unfold sumS; rw [h])
      go_wp2
      go_ret
      exact ⟨rfl, by rw [HS2.out]; simp [u8V, byB_toNat, show Y / 256 < 256 by omega, show X / 256 < 256 by omega, show Y % 256 < 256 by omega, show X % 256 < 256 by omega]⟩
/-- The block of a row that a call owns. -/
def ob (v : Value) : List Nat := v.ownBlock.toList
theorem mem_ob {v : Value} {j : Nat} : j ∈ ob v ↔ v.ownBlock = some j := by unfold ob; cases v.ownBlock <;> simp [eq_comm]
theorem But.keepB {l : List Nat} {w w' : World} (h : But l w w') {b o : Nat} {v : Value} (hb : b < w.heap.size) (hl : b ∉ l) (hc : w.cell? ⟨b, o, none⟩ = some v) : w'.cell? ⟨b, o, none⟩ = some v := by
  have := h.block b hb hl
  simp only [World.cell?] at hc ⊢
  rw [this]; exact hc
/-- A row of bytes that grew. -/
structure Grew (base : Nat) (v : Value) (bs : List UInt8) (w : World) (v' : Value) (w' : World) : Prop where
  own : w'.ownsRow base 5 1 v' bs.length (bs.map u8V)
  but : But (ob v) w w'
  at' : ∀ j, v'.ownBlock = some j → v.ownBlock = some j ∨ w.heap.size ≤ j
/-- A byte put behind, as append does it. -/
theorem grew_one {base : Nat} {v v1 : Value} {bs : List UInt8} {c : UInt8} {w w1 : World} {o : Obj} {m : Nat} (hm : m = bs.length) (ho : w1.ownsRow base 5 1 v1 (m + 1) (bs.map u8V ++ [.int .u8 (c.toNat : Nat)])) (hg : (w.alloc o).grownBy w1 v.ownBlock)
    (ha : v1.ownBlock = v.ownBlock ∨ v1.ownBlock = some (w.alloc o).heap.size) : Grew base v (bs ++ [c]) w v1 w1 := by
  subst hm
  refine ⟨by simpa [u8V] using ho, ((But.refl _ _).alloc o).grown hg (fun j hj => mem_ob.2 hj), fun j hj => ?_⟩
  rcases ha with h | h
  · exact .inl (by rw [← h]; exact hj)
  · rw [h] at hj
    cases hj
    exact .inr (by simp)
/-- Bytes put behind, as append does it. -/
theorem grew_many {base : Nat} {v v1 : Value} {bs cs : List UInt8} {w w1 : World} {m k : Nat} (hm : m = bs.length) (hk : k = cs.length) (ho : w1.ownsRow base 5 1 v1 (m + k) (bs.map u8V ++ cs.map u8V)) (hg : w.grownBy w1 v.ownBlock)
    (ha : v1.ownBlock = v.ownBlock ∨ v1.ownBlock = some w.heap.size) : Grew base v (bs ++ cs) w v1 w1 := by
  subst hm hk
  refine ⟨by simpa using ho, (But.refl _ _).grown hg (fun j hj => mem_ob.2 hj), fun j hj => ?_⟩
  rcases ha with h | h
  · exact .inl (by rw [← h]; exact hj)
  · rw [h] at hj
    cases hj
    exact .inr (Nat.le_refl _)
theorem Grew.trans {base : Nat} {v v1 v2 : Value} {bs cs : List UInt8} {w w1 w2 : World} (h : Grew base v bs w v1 w1) (k : Grew base v1 cs w1 v2 w2) : Grew base v cs w v2 w2 := by
  refine ⟨k.own, ⟨k.but.os.trans h.but.os, k.but.tape.trans h.but.tape, k.but.output.trans h.but.output, Nat.le_trans h.but.size k.but.size, fun j hj hl => ?_⟩, fun j hj => ?_⟩
  · refine (k.but.block j (Nat.lt_of_lt_of_le hj h.but.size) (fun hq => ?_)).trans (h.but.block j hj hl)
    rcases h.at' j (mem_ob.1 hq) with q | q
    · exact hl (mem_ob.2 q)
    · omega
  · rcases k.at' j hj with q | q
    · exact h.at' j q
    · exact .inr (Nat.le_trans h.but.size q)
theorem Grew.below {base : Nat} {v v1 : Value} {bs cs : List UInt8} {w w1 : World} {n : Nat} (h : Grew base v cs w v1 w1) (ho : w.ownsRow base 5 1 v bs.length (bs.map u8V)) (hb : base ≤ w.heap.size) (hn : n ≤ base) : Below n w w1 :=
  h.but.toBelow (by omega) (fun j hj => Nat.le_trans hn (ho.lt j (mem_ob.1 hj)).1)
set_option maxRecDepth 100000 in
set_option maxHeartbeats 2000000 in
theorem wNumber (base : Nat) (v : Value) (bs : List UInt8) (n : Nat) (w : World) (hown : w.ownsRow base 5 1 v bs.length (bs.map u8V)) (hb : base ≤ w.heap.size) (hm : bs.length ≤ 1000) (hn : n < 128) :
    Calls Tryz.prog 25 #[v, .int .i64 (n : Nat)] w fun e w' => ∃ v', e = .returned v' ∧ Grew base v (bs ++ [byB n]) w v' w' := by
  obtain ⟨i0, hi0, hz0, hz1, hz2⟩ := info_parts5
  have HI := Lib.hid hi0
  have HZ0 := Lib.hid hz0
  have HZ1 := Lib.hid hz1
  have HZ2 := Lib.hid hz2
  have HO := Lib.hid hown
  obtain ⟨m, hm2⟩ : ∃ m, m = bs.length := ⟨_, rfl⟩
  rw [← hm2] at hm HO
  have HM := Lib.hid hm2
  have HBN := Lib.hid (byB_toNat (show n < 256 by omega))
  clear hown hi0 hz0 hz1 hz2 hm2
  go_enter Tryz.func25, Tryz.ntmps25
  go_wp2
  refine wp_loop_rounds 1 ?_
  rw [rounds_succ]
  go_wp2_with (first | (at_builtin; go_loud (refine wpList_append_own_at _ rfl _ _ 37 rfl base 5 i0 (.int .u8 0) 1 1 Tryz.underlying37 HI.out HZ0.out HZ1.out HZ2.out rfl (by decide) _ _ _ rfl (HO.out.alloc _) ⟨w.heap.size, 0, none⟩ 1 1 [.int .u8 (n : Nat)] rfl rfl (cell_one_new _ _ _) (by intro u hu; simp at hu; subst hu; rfl) (by unfold maxLen; omega) (by omega) (by simp; omega) ?_); intro v1 w1 hown1 hgrow1 hnil1 hat1; have HO1 := Lib.hid hown1; have HG1 := Lib.hid hgrow1; have HA1 := Lib.hid hat1; clear hown1 hgrow1 hnil1 hat1))
  go_ret
  exact ⟨_, rfl, grew_one HM.out (by rw [HBN.out]; exact HO1.out) HG1.out HA1.out⟩
/-- Bytes in memory that stand in no block of these. -/
def BVN (w : World) (bl : List Nat) (x : Option Addr) (l : List UInt8) : Prop := 0 < l.length → ∃ b off, x = some ⟨b, off, none⟩ ∧ b < w.heap.size ∧ b ∉ bl ∧ ∀ i, i < l.length → w.cell? ⟨b, off + i, none⟩ = some (.int .u8 ((l.getD i 0).toNat : Nat))
theorem u8_news {w : World} {b off n : Nat} {l : List UInt8} (hn : n = l.length) (h : ∀ i, i < n → w.cell? ⟨b, off + i, none⟩ = some (.int .u8 ((l.getD i 0).toNat : Nat))) : ∀ j u, (l.map u8V)[j]? = some u → w.cell? ((⟨b, off, none⟩ : Addr).add j) = some u := by
  intro j u hj
  rw [List.getElem?_map] at hj
  obtain ⟨c, hc, rfl⟩ := Option.map_eq_some_iff.1 hj
  have hjl := (List.getElem?_eq_some_iff.1 hc).1
  rw [Go.WideShapes.add_plain, h j (by omega), List.getD_eq_getElem?_getD, hc]; rfl
theorem u8_one (l : List UInt8) : ∀ u ∈ l.map u8V, u.oneCell' = true := by
  intro u hu
  obtain ⟨c, _, rfl⟩ := List.mem_map.1 hu
  rfl
set_option maxRecDepth 100000 in
set_option maxHeartbeats 2000000 in
theorem wText (base : Nat) (v : Value) (bs s : List UInt8) (x : Option Addr) (c : Nat) (w : World) (hown : w.ownsRow base 5 1 v bs.length (bs.map u8V)) (hb : base ≤ w.heap.size) (hm : bs.length ≤ 900) (hn : s.length < 128) (hs : 0 < s.length) (hx : BVN w (ob v) x s) :
    Calls Tryz.prog 15 #[v, .slice x s.length c] w fun e w' => ∃ v', e = .returned v' ∧ Grew base v ((bs ++ [byB s.length]) ++ s) w v' w' := by
  obtain ⟨i0, hi0, hz0, hz1, hz2⟩ := info_parts5
  have HI := Lib.hid hi0
  have HZ0 := Lib.hid hz0
  have HZ1 := Lib.hid hz1
  have HZ2 := Lib.hid hz2
  obtain ⟨b, off, rfl, hbl, hbn, hc⟩ := hx hs
  have HC := Lib.hid hc
  have HNU := Lib.hid (wNumber base v bs s.length w hown hb (by omega) hn)
  obtain ⟨n, hn2⟩ : ∃ n, n = s.length := ⟨_, rfl⟩
  have HN := Lib.hid hn2
  rw [← hn2] at hn hs HNU HC ⊢
  obtain ⟨m, hm2⟩ : ∃ m, m = (bs ++ [byB n]).length := ⟨_, rfl⟩
  have hm3 : m ≤ 901 := by rw [hm2]; simp; omega
  have HM := Lib.hid hm2
  clear hown hi0 hz0 hz1 hz2 hn2 hc hm2 hm
  go_enter Tryz.func15, Tryz.ntmps15
  go_wp2_with (first | (go_at_call 25; refine HNU.out.mono ?_; rintro e w1 ⟨v1, rfl, hG1⟩; have HG1 := Lib.hid hG1; have HO1 : Hid (w1.ownsRow base 5 1 v1 m ((bs ++ [byB n]).map u8V)) := Lib.hid (by rw [HM.out]; exact hG1.own); have hbw : base ≤ w1.heap.size := Nat.le_trans hb hG1.but.size; have HC1 := Lib.hid (u8_news HN.out (fun i hi => hG1.but.keepB hbl hbn (HC.out i hi))); clear hG1) | (at_builtin; go_loud (refine wpList_append_own_at _ rfl _ _ 37 rfl base 5 i0 (.int .u8 0) 1 1 Tryz.underlying37 HI.out HZ0.out HZ1.out HZ2.out rfl (by decide) _ _ _ rfl HO1.out ⟨b, off, none⟩ n c (s.map u8V) rfl (by rw [List.length_map, ← HN.out, Nat.mul_one]) HC1.out (u8_one s) (by unfold maxLen; omega) (by omega) hbw ?_); intro v2 w2 hown2 hgrow2 hnil2 hat2; have HO2 := Lib.hid hown2; have HG2 := Lib.hid hgrow2; have HA2 := Lib.hid hat2; clear hown2 hgrow2 hnil2 hat2))
  go_ret
  exact ⟨_, rfl, HG1.out.trans (grew_many HM.out HN.out HO2.out HG2.out HA2.out)⟩
end Go.Proofs.YtdomglkcfecnnaaGreat
/- Walks: the reader: take, a number of one byte, a text. -/
namespace Go.Proofs.YtdomglkcfecnnaaGreat
open Go.RowKit Go.Shelf
/-- A reader: what it has still to read. -/
def RDR (W : World) (R g o n c : Nat) : Prop := W.heap[R]? = some (.cells #[.slice (some ⟨g, o, none⟩) n c] 103 (0, 0))
theorem RDR.cell {W : World} {R g o n c : Nat} (h : RDR W R g o n c) : W.cell? ⟨R, 0, none⟩ = some (.slice (some ⟨g, o, none⟩) n c) ∧ W.frozen? ⟨R, 0, none⟩ = false ∧ R < W.heap.size := by
  unfold RDR at h
  exact ⟨by simp [World.cell?, h], by simp [World.frozen?, h], (Array.getElem?_eq_some_iff.1 h).1⟩
theorem RDR.set {W : World} {R g o n c o' n' c' : Nat} (h : RDR W R g o n c) : RDR (W.setCell ⟨R, 0, none⟩ (.slice (some ⟨g, o', none⟩) n' c')) R g o' n' c' := set_block h _
theorem RDR.but {W W' : World} {R g o n c : Nat} {l : List Nat} (h : RDR W R g o n c) (hb : But l W W') (hl : R ∉ l) : RDR W' R g o n c := hb.heap h hl
set_option maxHeartbeats 1000000 in
theorem wTake (R g o n c k : Nat) (w : World) (hR : RDR w R g o n c) (hk : k ≤ n) (hc : k < c) (hm : c ≤ 9223372036854775807) :
    Calls Tryz.prog 39 #[.pointer (some ⟨R, 0, none⟩), .int .i64 (k : Nat)] w fun e w' => e = .returned (.slice (some ⟨g, o, none⟩) k c) ∧ RDR w' R g (o + k) (n - k) (c - k) ∧ But [R] w w' := by
  obtain ⟨h1, h2, h3⟩ := hR.cell
  obtain ⟨r, hr⟩ : ∃ r, c - k = r + 1 := ⟨c - k - 1, by omega⟩
  have hkz : ¬ (k : Int) > (n : Int) := by omega
  have hk0 : (0 : Int) ≤ (k : Int) := by omega
  have hkc : (k : Int) ≤ (c : Int) := by omega
  have hkn : (k : Int) ≤ (n : Int) := by omega
  have HR := Lib.hid hR
  clear hR
  go_enter Tryz.func39, Tryz.ntmps39
  go_wp2
  go_ret
  exact ⟨rfl, HR.out.set, (But.refl _ _).set _ _ (by simp)⟩
set_option maxRecDepth 100000 in
set_option maxHeartbeats 2000000 in
theorem wNumber1 (R g o n c B : Nat) (w : World) (hR : RDR w R g o n c) (hn1 : 1 ≤ n) (hc : 1 < c) (hm : c ≤ 9223372036854775807) (hg : g < w.heap.size) (hgr : g ≠ R) (hB : B < 128) (hb : w.cell? ⟨g, o, none⟩ = some (.int .u8 (B : Nat))) :
    Calls Tryz.prog 38 #[.pointer (some ⟨R, 0, none⟩)] w fun e w' => e = .returned (.int .i64 (B : Nat)) ∧ RDR w' R g (o + 1) (n - 1) (c - 1) ∧ But [R] w w' := by
  have HT := Lib.hid (wTake R g o n c 1 w hR hn1 hc hm)
  have HB := Lib.hid (fun (w' : World) (h : But [R] w w') => h.keepB (o := o) hg (by simpa using hgr) hb)
  clear hR hb hm hc hn1
  go_enter Tryz.func38, Tryz.ntmps38
  go_wp2
  refine wp_loop_rounds 1 ?_
  rw [rounds_succ]
  go_wp2_with (first | (go_at_call 39; refine HT.out.mono ?_; rintro e w1 ⟨rfl, hr1, hb1⟩; have hc1 := HB.out w1 hb1; have HR1 := Lib.hid hr1; have HB1 := Lib.hid hb1; clear hr1 hb1))
  all_goals
    go_ret
    exact ⟨ret_int (by omega), HR1.out, HB1.out⟩
set_option maxRecDepth 100000 in
set_option maxHeartbeats 2000000 in
theorem wText1 (R g o n c B : Nat) (w : World) (hR : RDR w R g o n c) (hn1 : 1 + B ≤ n) (hc : 1 + B < c) (hm : c ≤ 9223372036854775807) (hg : g < w.heap.size) (hgr : g ≠ R) (hB : B < 128) (hb : w.cell? ⟨g, o, none⟩ = some (.int .u8 (B : Nat))) :
    Calls Tryz.prog 40 #[.pointer (some ⟨R, 0, none⟩)] w fun e w' => e = .returned (.slice (some ⟨g, o + 1, none⟩) B (c - 1)) ∧ RDR w' R g (o + 1 + B) (n - 1 - B) (c - 1 - B) ∧ But [R] w w' := by
  have HN := Lib.hid (wNumber1 R g o n c B w hR (by omega) (by omega) hm hg hgr hB hb)
  have HT := Lib.hid (fun (w1 : World) (h : RDR w1 R g (o + 1) (n - 1) (c - 1)) => wTake R g (o + 1) (n - 1) (c - 1) B w1 h (by omega) (by omega) (by omega))
  clear hR hb hm hc hn1
  go_enter Tryz.func40, Tryz.ntmps40
  go_wp2_with (first | (go_at_call 38; refine HN.out.mono ?_; rintro e w1 ⟨rfl, hr1, hb1⟩; have HR1 := Lib.hid hr1; have HB1 := Lib.hid hb1; clear hr1 hb1) | (go_at_call 39; refine (HT.out _ HR1.out).mono ?_; rintro e w2 ⟨rfl, hr2, hb2⟩; have HR2 := Lib.hid hr2; have HB2 := Lib.hid hb2; clear hr2 hb2))
  go_ret
  exact ⟨rfl, HR2.out, HB1.out.trans HB2.out⟩
end Go.Proofs.YtdomglkcfecnnaaGreat
