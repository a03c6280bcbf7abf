/- Own texts, merged: N1, D1, Q1, Q2. -/
import Derived.WalkKit
import Derived.Test.YtdomglkcfecnnaaGreatH1
import Derived.Test.YtdomglkcfecnnaaGreatH9
import Derived.Test.YtdomglkcfecnnaaGreatHD
import Derived.Test.YtdomglkcfecnnaaGreatFin
/- Plain: the highest bit, keys of numbers. -/
namespace Go.Proofs.YtdomglkcfecnnaaGreat
open Go.RowKit
theorem and_top (x : Nat) (h : x < 2 ^ 64) : x &&& 2 ^ 63 = if x < 2 ^ 63 then 0 else 2 ^ 63 := by
  apply Nat.eq_of_testBit_eq
  intro i
  rw [Nat.testBit_and]
  by_cases hi : i = 63
  · subst hi
    rw [Nat.testBit_two_pow_self, Bool.and_true]
    split
    · rename_i hlt; rw [Nat.testBit_lt_two_pow hlt]; simp
    · rw [Nat.testBit_two_pow_self, Nat.testBit_eq_decide_div_mod_eq]
      have : x / 2 ^ 63 = 1 := by omega
      rw [this]; rfl
  · rw [Nat.testBit_two_pow_of_ne (by omega), Bool.and_false]
    split
    · simp
    · rw [Nat.testBit_two_pow_of_ne (by omega)]
theorem or_top (x : Nat) (h : x < 2 ^ 63) : x ||| 2 ^ 63 = x + 2 ^ 63 := by
  rw [Nat.or_comm, Nat.add_comm]
  exact (Nat.two_pow_add_eq_or_of_lt h 1 |>.symm ▸ by simp)
theorem xor_top (y : Nat) (h : y < 2 ^ 63) : (y + 2 ^ 63) ^^^ 2 ^ 63 = y := by
  apply Nat.eq_of_testBit_eq
  intro i
  rw [Nat.testBit_xor, Nat.add_comm]
  rcases Nat.lt_trichotomy i 63 with hi | hi | hi
  · rw [Nat.testBit_two_pow_add_gt hi, Nat.testBit_two_pow_of_ne (by omega)]; simp
  · subst hi; rw [Nat.testBit_two_pow_add_eq, Nat.testBit_two_pow_self, Nat.testBit_lt_two_pow h]; rfl
  · have h1 : (2 ^ 63 + y).testBit i = false := Nat.testBit_lt_two_pow (Nat.lt_of_lt_of_le (show 2 ^ 63 + y < 2 ^ 64 by omega) (Nat.pow_le_pow_right (by omega) hi))
    have h2 : y.testBit i = false := Nat.testBit_lt_two_pow (Nat.lt_of_lt_of_le h (Nat.pow_le_pow_right (by omega) (by omega)))
    rw [h1, h2, Nat.testBit_two_pow_of_ne (by omega)]; rfl
theorem ofInt_nat (a : Nat) (ha : a < 2 ^ 64) : (BitVec.ofInt 64 (a : Int)).toNat = a := by
  rw [BitVec.ofInt_natCast, BitVec.toNat_ofNat]; exact Nat.mod_eq_of_lt ha
theorem bits_and_def (a b : Int) : bits .and .u64 a b = IntKind.u64.wrap ((BitVec.ofInt 64 a &&& BitVec.ofInt 64 b).toNat : Int) := rfl
theorem bits_or_def (a b : Int) : bits .or .u64 a b = IntKind.u64.wrap ((BitVec.ofInt 64 a ||| BitVec.ofInt 64 b).toNat : Int) := rfl
theorem bits_xor_def (a b : Int) : bits .xor .u64 a b = IntKind.u64.wrap ((BitVec.ofInt 64 a ^^^ BitVec.ofInt 64 b).toNat : Int) := rfl
theorem bits_andNot_def (a b : Int) : bits .andNot .u64 a b = IntKind.u64.wrap ((BitVec.ofInt 64 a &&& ~~~BitVec.ofInt 64 b).toNat : Int) := rfl
theorem top_cast : (9223372036854775808 : Int) = ((2 ^ 63 : Nat) : Int) := by decide
theorem u64_and_top (x : Nat) (h : x < 2 ^ 64) : bits .and .u64 (x : Int) 9223372036854775808 = if x < 2 ^ 63 then 0 else 9223372036854775808 := by
  rw [top_cast, bits_and_def, BitVec.toNat_and, ofInt_nat x h, ofInt_nat _ (by decide), and_top x h, IntKind.wrap_u64]
  split <;> omega
theorem u64_or_top (x : Nat) (h : x < 2 ^ 63) : bits .or .u64 (x : Int) 9223372036854775808 = ((x + 9223372036854775808 : Nat) : Int) := by
  rw [top_cast, bits_or_def, BitVec.toNat_or, ofInt_nat x (by omega), ofInt_nat _ (by decide), or_top x h, IntKind.wrap_u64]
  omega
theorem u64_xor_top (x : Nat) (h1 : 2 ^ 63 ≤ x) (h2 : x < 2 ^ 64) : bits .xor .u64 (x : Int) 9223372036854775808 = ((x - 9223372036854775808 : Nat) : Int) := by
  obtain ⟨y, rfl⟩ : ∃ y, x = y + 2 ^ 63 := ⟨x - 2 ^ 63, by omega⟩
  rw [top_cast, bits_xor_def, BitVec.toNat_xor, ofInt_nat _ h2, ofInt_nat _ (by decide), xor_top y (by omega), IntKind.wrap_u64]
  omega
theorem u64_not (x : Nat) (h : x < 2 ^ 64) : bits .xor .u64 IntKind.u64.max (x : Int) = ((18446744073709551615 - x : Nat) : Int) := by
  have e : BitVec.ofInt 64 IntKind.u64.max = BitVec.allOnes 64 := by rfl
  rw [bits_xor_def, e, BitVec.xor_comm, BitVec.xor_allOnes, BitVec.toNat_not, ofInt_nat x h, IntKind.wrap_u64]
  omega
open Ieee
def keyN (x : Nat) : Nat := if isNan x then 18446744073709551615 else if x < 9223372036854775808 then x + 9223372036854775808 else 18446744073709551615 - x
def ofB (k : Nat) : Nat := if k < 9223372036854775808 then 18446744073709551615 - k else k - 9223372036854775808
theorem keyN_lt (x : Nat) (h : x < 2 ^ 64) : keyN x < 2 ^ 64 := by unfold keyN; split <;> (try split) <;> omega
theorem ofB_lt (k : Nat) (h : k < 2 ^ 64) : ofB k < 2 ^ 64 := by unfold ofB; split <;> omega
theorem rung_of (x : Nat) (h : x < 2 ^ 64) : rung x = if x < 2 ^ 63 then x else x - 2 ^ 63 := by unfold rung; split <;> omega
theorem isNeg_of (x : Nat) (h : x < 2 ^ 64) : isNeg x = decide (2 ^ 63 ≤ x) := by
  unfold isNeg
  rw [Bool.eq_iff_iff]
  simp only [beq_iff_eq, decide_eq_true_eq]
  omega
theorem keyN_num (x : Nat) (h : x < 2 ^ 64) (hn : isNan x = false) : keyN x < 18446744073709551614 := by
  have hr : rung x ≤ 2047 * 2 ^ 52 := by simpa [isNan] using hn
  rw [rung_of x h] at hr
  unfold keyN
  rw [hn]
  simp only [Bool.false_eq_true, if_false]
  split <;> split at hr <;> omega
theorem ofB_key (x : Nat) (h : x < 2 ^ 64) (hn : isNan x = false) : ofB (keyN x) = x := by
  unfold ofB keyN
  rw [hn]
  simp only [Bool.false_eq_true, if_false]
  split <;> split <;> omega
theorem ofB_greatest : isNan (ofB 18446744073709551615) = true := by decide
theorem key_ofB (k : Nat) (h : k < 2 ^ 64) (hn : isNan (ofB k) = false) : keyN (ofB k) = k := by
  unfold keyN
  rw [hn]
  unfold ofB
  simp only [Bool.false_eq_true, if_false]
  split <;> split <;> omega
theorem key_nan (x : Nat) (h : isNan x = true) : keyN x = 18446744073709551615 := by simp [keyN, h]
theorem key_of_key (x : Nat) (h : x < 2 ^ 64) : keyN (ofB (keyN x)) = keyN x := by
  cases hn : isNan x
  · rw [ofB_key x h hn]
  · rw [key_nan x hn, key_nan _ ofB_greatest]
theorem key_lt_of_sv {x y : Nat} (hx : x < 2 ^ 64) (hy : y < 2 ^ 64) (nx : isNan x = false) (ny : isNan y = false) (h : sv x < sv y) : keyN x < keyN y := by
  have rx := rung_of x hx
  have ry := rung_of y hy
  unfold sv at h
  rw [isNeg_of x hx, isNeg_of y hy] at h
  unfold keyN
  rw [nx, ny]
  simp only [Bool.false_eq_true, if_false]
  by_cases h1 : x < 2 ^ 63
  · by_cases h2 : y < 2 ^ 63
    · rw [if_pos h1] at rx; rw [if_pos h2] at ry
      rw [if_neg (by simp; omega), if_neg (by simp; omega), rx, ry] at h
      have : x < y := by
        rcases Nat.lt_or_ge x y with q | q
        · exact q
        · have := valN_le q; omega
      rw [if_pos (by omega), if_pos (by omega)]; omega
    · rw [if_neg (by simp; omega), if_pos (by simp; omega)] at h
      omega
  · by_cases h2 : y < 2 ^ 63
    · rw [if_neg (by omega), if_pos (by omega)]; omega
    · rw [if_neg h1] at rx; rw [if_neg h2] at ry
      rw [if_pos (by simp; omega), if_pos (by simp; omega), rx, ry] at h
      have : y < x := by
        rcases Nat.lt_or_ge y x with q | q
        · exact q
        · have := valN_le (show x - 2 ^ 63 ≤ y - 2 ^ 63 by omega); omega
      rw [if_neg (by omega), if_neg (by omega)]; omega
theorem sv_eq_zero_or {x y : Nat} (hx : x < 2 ^ 64) (hy : y < 2 ^ 64) (nx : isNan x = false) (ny : isNan y = false) (h : keyN x < keyN y) : sv x < sv y ∨ (sv x = 0 ∧ sv y = 0) := by
  have rx := rung_of x hx
  have ry := rung_of y hy
  unfold keyN at h
  rw [nx, ny] at h
  simp only [Bool.false_eq_true, if_false] at h
  unfold sv
  rw [isNeg_of x hx, isNeg_of y hy]
  by_cases h1 : x < 2 ^ 63
  · rw [if_pos (by omega)] at h
    by_cases h2 : y < 2 ^ 63
    · rw [if_pos (by omega)] at h
      rw [if_pos h1] at rx; rw [if_pos h2] at ry
      rw [if_neg (by simp; omega), if_neg (by simp; omega), rx, ry]
      have := valN_lt (show x < y by omega); omega
    · rw [if_neg (by omega)] at h; omega
  · rw [if_neg (by omega)] at h
    by_cases h2 : y < 2 ^ 63
    · rw [if_pos (by simp; omega), if_neg (by simp; omega)]; omega
    · rw [if_neg (by omega)] at h
      rw [if_neg h1] at rx; rw [if_neg h2] at ry
      rw [if_pos (by simp; omega), if_pos (by simp; omega), rx, ry]
      have := valN_lt (show y - 2 ^ 63 < x - 2 ^ 63 by omega); omega
end Go.Proofs.YtdomglkcfecnnaaGreat
/- What package desc answers: names, labels, options, a field's own parts, its values, fields. No program in sight. -/
namespace Go.Proofs.YtdomglkcfecnnaaGreat
def ltrA (c : UInt8) : Bool := decide (97 ≤ c.toNat ∧ c.toNat ≤ 122)
def othA (c : UInt8) : Bool := decide (48 ≤ c.toNat ∧ c.toNat ≤ 57 ∨ c.toNat = 95)
/-- Texts that are no names: or, and, not, len, has, abs. -/
def kwds : List Bs := [[111, 114], [97, 110, 100], [110, 111, 116], [108, 101, 110], [104, 97, 115], [97, 98, 115]]
def signA (l : Bs) (i : Nat) : Bool := ltrA (l.getD i 0) || (decide (i ≠ 0) && othA (l.getD i 0))
/-- May a name be? -/
def nameP (l : Bs) : Bool := decide (1 ≤ l.length ∧ l.length ≤ 16) && ((List.range l.length).all (signA l) && decide (l ∉ kwds))
/-- Is a text itself, as it is shown, and has from some to some clusters? -/
def flatP (l : Bs) (a b : Int) : Bool := decide (flatS l = l) && decide (a ≤ ((cutS l).length : Int) ∧ ((cutS l).length : Int) ≤ b)
def labelP (l : Bs) : Bool := flatP l 1 64
def tyK (k : Int) : Nat := if k = 1 ∨ k = 2 ∨ k = 4 ∨ k = 6 ∨ k = 8 then 2 else if k = 3 ∨ k = 9 ∨ k = 7 then 1 else if k = 5 then 3 else 0
def listK (k : Int) : Bool := decide (k = 6 ∨ k = 7 ∨ k = 8)
/-- May options be? -/
def optsP (L : List Bs) : Bool := decide (1 ≤ L.length ∧ L.length ≤ 256) && (L.all labelP && decide L.Nodup)
structure Vle where
  s : Bs
  n : Int
  b : Bool
  l : List Int
  f : Nat
structure Fld where
  k : Int
  nm : Bs
  lb : Bs
  op : List Bs
  mn : Int
  mx : Int
  lo : Nat
  hi : Nat
  st : Nat
  d : Vle
  sh : Bs
  ck : Bs
/-- Is a number zero? -/
def zF (x : Nat) : Bool := decide (rung x = 0)
/-- How many values has a slide? -/
def sldN (f : Fld) : Nat := if f.k = 9 then stepsN f.lo f.hi f.st else 0
def ownP (f : Fld) : Bool :=
  (if listK f.k = true then optsP f.op else decide (f.op = [])) && ((decide (f.k = 9) || (zF f.lo && (zF f.hi && zF f.st))) &&
  (if f.k = 1 ∨ f.k = 2 then decide (0 ≤ f.mn ∧ f.mn ≤ f.mx ∧ f.mx ≤ 4096)
   else if f.k = 3 then decide (f.mn ≤ f.mx ∧ -999999999999999 ≤ f.mn ∧ f.mn ≤ 999999999999999 ∧ -999999999999999 ≤ f.mx ∧ f.mx ≤ 999999999999999)
   else if f.k = 7 then decide (0 ≤ f.mn ∧ f.mn ≤ f.mx ∧ f.mx ≤ (f.op.length : Int))
   else (decide (f.k ≠ 9) || decide (sldN f ≠ 0)) && decide (f.mn = 0 ∧ f.mx = 0)))
def onlyP (k : Int) (v : Vle) : Bool :=
  (decide (k = 1 ∨ k = 2 ∨ k = 4) || decide (v.s = [])) && ((decide (k = 3 ∨ k = 6 ∨ k = 8) || decide (v.n = 0)) && ((decide (k = 5) || !v.b) && ((decide (k = 7) || decide (v.l = [])) && (decide (k = 9) || zF v.f))))
def risA (l : List Int) (most : Int) (i : Nat) : Bool := decide (0 ≤ l.getD i 0 ∧ l.getD i 0 < most) && (decide (i = 0) || decide (l.getD (i - 1) 0 < l.getD i 0))
/-- Do places rise strictly, all below some number? -/
def risP (l : List Int) (most : Int) : Bool := (List.range l.length).all (risA l most)
/-! ### Dates -/
def digA (c : UInt8) : Bool := decide (48 ≤ c.toNat ∧ c.toNat ≤ 57)
def numN (l : Bs) : Nat := l.foldl (fun n c => 10 * n + (c.toNat - 48)) 0
def leapP (y : Nat) : Bool := decide (1 ≤ y ∧ y ≤ 9999 ∧ y % 4 = 0 ∧ (y % 100 ≠ 0 ∨ y % 400 = 0))
def daysN (y m : Nat) : Nat :=
  if y < 1 ∨ 9999 < y ∨ m < 1 ∨ 12 < m then 0 else if m = 2 then (if leapP y = true then 29 else 28) else if m = 4 ∨ m = 6 ∨ m = 9 ∨ m = 11 then 30 else 31
/-- Is a text a date? -/
def dateP (l : Bs) : Bool :=
  decide (l.length = 10 ∧ l.getD 4 0 = 45 ∧ l.getD 7 0 = 45) && ((l.take 4).all digA && (((l.drop 5).take 2).all digA && ((l.drop 8).all digA &&
  decide (1 ≤ numN (l.drop 8) ∧ numN (l.drop 8) ≤ daysN (numN (l.take 4)) (numN ((l.drop 5).take 2))))))
/-- Where a number stands among a slide's values. -/
def plcN (f : Fld) (x : Nat) : Nat := firstNot (fun k => keyN (valB f.lo f.st k) != keyN x) (sldN f)
def placeP (f : Fld) (x : Nat) : Nat × Bool := if f.k = 9 ∧ isNan x = false ∧ plcN f x < sldN f then (plcN f x, true) else (0, false)
def fitsP (f : Fld) (v : Vle) : Bool :=
  onlyP f.k v && (if f.k = 1 ∨ f.k = 2 then flatP v.s 0 f.mx
   else if f.k = 3 then decide (-999999999999999 ≤ v.n ∧ v.n ≤ 999999999999999)
   else if f.k = 4 then (decide (v.s = []) || dateP v.s)
   else if f.k = 5 then true
   else if f.k = 6 ∨ f.k = 8 then decide (0 ≤ v.n ∧ v.n ≤ (f.op.length : Int) - 1)
   else if f.k = 7 then risP v.l f.op.length
   else if f.k = 9 then (placeP f v.f).2
   else false)
def valueP (f : Fld) (v : Vle) : Bool := ownP f && fitsP f v
def fieldP (f : Fld) : Nat := if tyK f.k = 0 then 1 else if nameP f.nm && (labelP f.lb && valueP f f.d) then 0 else 210
end Go.Proofs.YtdomglkcfecnnaaGreat
/- Plain words of the rule language: pieces, trees, the parser, depth. No program in sight. -/
namespace Go.Proofs.YtdomglkcfecnnaaGreat
def isDig (c : UInt8) : Bool := 48 ≤ c && c ≤ 57
def isLet (c : UInt8) : Bool := 97 ≤ c && c ≤ 122
def isWrd (c : UInt8) : Bool := isLet c || isDig c || c == 95
/-- A piece: 1 a number, 2 a word, 3 a text, 4 a sign. -/
structure Tok where
  k : Nat
  s : Bs
deriving DecidableEq
def cntDig (l : Bs) : Nat := (l.takeWhile isDig).length
def cntWrd (l : Bs) : Nat := (l.takeWhile isWrd).length
/-- How many bytes a number has, how many digits, how many of them behind the point. -/
def numLen (l : Bs) : Nat × Nat × Nat :=
  let a := cntDig l
  if l.getD a 0 = 46 ∧ isDig (l.getD (a + 1) 0) = true then (a + 1 + cntDig (l.drop (a + 1)), a + cntDig (l.drop (a + 1)), cntDig (l.drop (a + 1))) else (a, a, 0)
def isTwo (c d : UInt8) : Bool := d == 61 && (c == 33 || c == 60 || c == 62)
def isOne (c : UInt8) : Bool := c == 61 || c == 60 || c == 62 || c == 43 || c == 45 || c == 42 || c == 47 || c == 40 || c == 41 || c == 44
/-- A number's digits as a number, how many stand behind the point, is there one. -/
def valStep (x : Nat × Nat × Bool) (c : UInt8) : Nat × Nat × Bool := if c = 46 then (x.1, x.2.1, true) else (10 * x.1 + (c.toNat - 48), if x.2.2 = true then x.2.1 + 1 else x.2.1, x.2.2)
def valF (l : Bs) : Nat × Nat × Bool := l.foldl valStep (0, 0, false)
/-- A number's text. -/
def NumT (l : Bs) : Prop := (∀ c ∈ l, c = 46 ∨ isDig c = true) ∧ (valF l).2.1 ≤ 6 ∧ (l.filter (fun c => c != 46)).length ≤ 15 ∧ l.length ≤ 16
/-- How many bytes stand ahead of the first apostrophe. -/
def cntTxt (l : Bs) : Nat := (l.takeWhile (fun c => c != 39)).length
/-- The first piece of a text that begins with no blank, and how many bytes it takes. -/
def lex1 (l : Bs) : Option (Tok × Nat) :=
  match l with
  | [] => none
  | c :: t =>
    if isDig c = true then
      if (numLen l).2.1 ≤ 15 ∧ (numLen l).2.2 ≤ 6 then some (⟨1, l.take (numLen l).1⟩, (numLen l).1) else none
    else if isLet c = true then some (⟨2, l.take (1 + cntWrd t)⟩, 1 + cntWrd t)
    else if c = 39 then (if cntTxt t < t.length then some (⟨3, t.take (cntTxt t)⟩, cntTxt t + 2) else none)
    else if isTwo c (t.getD 0 0) = true then some (⟨4, l.take 2⟩, 2)
    else if isOne c = true then some (⟨4, l.take 1⟩, 1)
    else none
def cntBl (l : Bs) : Nat := (l.takeWhile (fun c => c == 32)).length
/-- The pieces of a text, and whether it has no fault. -/
def lexF : Nat → Bs → List Tok × Bool
  | 0, _ => ([], false)
  | n + 1, l =>
    let l' := l.drop (cntBl l)
    if l' = [] then ([], true) else
    match lex1 l' with
    | none => ([], false)
    | some (t, k) => (t :: (lexF n (l'.drop k)).1, (lexF n (l'.drop k)).2)
def lex (l : Bs) : List Tok × Bool := lexF (l.length + 1) l
inductive Tree where
  | mk (op : Bs) (n : Nat) (s : Bs) (l : List Tree)
def Tree.op : Tree → Bs | .mk o _ _ _ => o
def Tree.n : Tree → Nat | .mk _ n _ _ => n
def Tree.s : Tree → Bs | .mk _ _ s _ => s
def Tree.l : Tree → List Tree | .mk _ _ _ l => l
mutual
def depT : Tree → Nat
  | .mk _ _ _ l => depL l + 1
def depL : List Tree → Nat
  | [] => 0
  | t :: r => max (depT t) (depL r)
end
inductive Mode where
  | or | orT (t : Tree) | and | andT (t : Tree) | not | sum | sumT (t : Tree) | prod | prodT (t : Tree) | signed | atom
def wor : Bs := [111, 114]
def wand : Bs := [97, 110, 100]
def wnot : Bs := [110, 111, 116]
def wlen : Bs := [108, 101, 110]
def wabs : Bs := [97, 98, 115]
def whas : Bs := [104, 97, 115]
def wnum : Bs := [110, 117, 109]
def wtext : Bs := [116, 101, 120, 116]
def wname : Bs := [110, 97, 109, 101]
def wneg : Bs := [110, 101, 103]
def isTok (ts : List Tok) (k : Nat) (s : Bs) : Bool :=
  match ts with
  | [] => false
  | t :: _ => t.k == k && decide (t.s = s)
def isCmp (s : Bs) : Bool := decide (s = [61] ∨ s = [33, 61] ∨ s = [60] ∨ s = [60, 61] ∨ s = [62] ∨ s = [62, 61])
/-- The next piece; none: a fault stands there. -/
def adv (ok : Bool) (ts : List Tok) : Option (List Tok) :=
  match ts with
  | [] => none
  | _ :: r => if r = [] ∧ ok = false then none else some r
def must (ok : Bool) (s : Bs) (ts : List Tok) : Option (List Tok) := if isTok ts 4 s = true then adv ok ts else none
def two (op : Bs) (a b : Tree) : Tree := .mk op 0 [] [a, b]
def one (op : Bs) (a : Tree) : Tree := .mk op 0 [] [a]
/-- A rule in parentheses, read by R. -/
def inside (ok : Bool) (R : List Tok → Option (Tree × List Tok)) (ts : List Tok) : Option (Tree × List Tok) :=
  match must ok [40] ts with
  | none => none
  | some t1 => match R t1 with
    | none => none
    | some (a, t2) => match must ok [41] t2 with
      | none => none
      | some t3 => some (a, t3)
def hasP (ok : Bool) (R : List Tok → Option (Tree × List Tok)) (ts : List Tok) : Option (Tree × List Tok) :=
  match must ok [40] ts with
  | none => none
  | some t1 => match R t1 with
    | none => none
    | some (a, t2) => match must ok [44] t2 with
      | none => none
      | some t3 => match R t3 with
        | none => none
        | some (b, t4) => match must ok [41] t4 with
          | none => none
          | some t5 => some (two whas a b, t5)
/-- The parser; V: a number's value. -/
def P (V : Bs → Nat) (ok : Bool) : Nat → Mode → List Tok → Option (Tree × List Tok)
  | 0, _, _ => none
  | n + 1, .or, ts => match P V ok n .and ts with
    | none => none
    | some (a, r) => P V ok n (.orT a) r
  | n + 1, .orT a, ts => if isTok ts 2 wor = true then
      match adv ok ts with
      | none => none
      | some t1 => match P V ok n .and t1 with
        | none => none
        | some (b, r) => P V ok n (.orT (two wor a b)) r
    else some (a, ts)
  | n + 1, .and, ts => match P V ok n .not ts with
    | none => none
    | some (a, r) => P V ok n (.andT a) r
  | n + 1, .andT a, ts => if isTok ts 2 wand = true then
      match adv ok ts with
      | none => none
      | some t1 => match P V ok n .not t1 with
        | none => none
        | some (b, r) => P V ok n (.andT (two wand a b)) r
    else some (a, ts)
  | n + 1, .not, ts => if isTok ts 2 wnot = true then
      match adv ok ts with
      | none => none
      | some t1 => match P V ok n .not t1 with
        | none => none
        | some (b, r) => some (one wnot b, r)
    else match P V ok n .sum ts with
      | none => none
      | some (a, r) => match r with
        | [] => some (a, r)
        | t :: _ => if t.k = 4 ∧ isCmp t.s = true then
            match adv ok r with
            | none => none
            | some t1 => match P V ok n .sum t1 with
              | none => none
              | some (b, r') => some (two t.s a b, r')
          else some (a, r)
  | n + 1, .sum, ts => match P V ok n .prod ts with
    | none => none
    | some (a, r) => P V ok n (.sumT a) r
  | n + 1, .sumT a, ts => if isTok ts 4 [43] = true ∨ isTok ts 4 [45] = true then
      match adv ok ts with
      | none => none
      | some t1 => match P V ok n .prod t1 with
        | none => none
        | some (b, r) => P V ok n (.sumT (two ((ts.headD ⟨0, []⟩).s) a b)) r
    else some (a, ts)
  | n + 1, .prod, ts => match P V ok n .signed ts with
    | none => none
    | some (a, r) => P V ok n (.prodT a) r
  | n + 1, .prodT a, ts => if isTok ts 4 [42] = true ∨ isTok ts 4 [47] = true then
      match adv ok ts with
      | none => none
      | some t1 => match P V ok n .signed t1 with
        | none => none
        | some (b, r) => P V ok n (.prodT (two ((ts.headD ⟨0, []⟩).s) a b)) r
    else some (a, ts)
  | n + 1, .signed, ts => if isTok ts 4 [45] = true then
      match adv ok ts with
      | none => none
      | some t1 => match P V ok n .signed t1 with
        | none => none
        | some (b, r) => some (one wneg b, r)
    else P V ok n .atom ts
  | n + 1, .atom, ts =>
    match ts with
    | [] => none
    | t :: _ =>
      if t.k = 1 then (match adv ok ts with
        | none => none
        | some r => some (.mk wnum (V t.s) [] [], r))
      else if t.k = 3 then (match adv ok ts with
        | none => none
        | some r => some (.mk wtext 0 t.s [], r))
      else if t.k = 2 then
        if t.s = wor ∨ t.s = wand ∨ t.s = wnot then none
        else match adv ok ts with
        | none => none
        | some r =>
          if t.s = wlen ∨ t.s = wabs then (match inside ok (P V ok n .or) r with
            | none => none
            | some (a, r') => some (one t.s a, r'))
          else if t.s = whas then hasP ok (P V ok n .or) r
          else some (.mk wname 0 t.s [], r)
      else inside ok (P V ok n .or) ts
theorem adv_len {ok : Bool} {ts r : List Tok} (h : adv ok ts = some r) : r.length + 1 = ts.length ∧ (ok = false → r ≠ []) := by
  unfold adv at h
  split at h
  · cases h
  · split at h
    · cases h
    · rename_i hc
      cases h
      refine ⟨rfl, fun ho e => hc ⟨e, ho⟩⟩
theorem must_len {ok : Bool} {s : Bs} {ts r : List Tok} (h : must ok s ts = some r) : r.length + 1 = ts.length ∧ (ok = false → r ≠ []) := by
  unfold must at h
  split at h
  · exact adv_len h
  · cases h
/-- What is left of the pieces behind a part. -/
def Less (ok : Bool) (tail : Bool) (ts r : List Tok) : Prop := r.length ≤ ts.length ∧ (tail = false → r.length < ts.length) ∧ ((ok = false → ts ≠ []) → ok = false → r ≠ [])
theorem inside_len {ok : Bool} {R : List Tok → Option (Tree × List Tok)} {ts r : List Tok} {a : Tree} (hR : ∀ ts a r, R ts = some (a, r) → Less ok false ts r) (h : inside ok R ts = some (a, r)) : Less ok false ts r := by
  unfold inside at h
  split at h
  · cases h
  · rename_i t1 h1
    split at h
    · cases h
    · rename_i a2 t2 h2
      split at h
      · cases h
      · rename_i t3 h3
        cases h
        have := must_len h1
        have := (hR _ _ _ h2).1
        have := must_len h3
        exact ⟨by omega, fun _ => by omega, fun _ => this.2⟩
theorem hasP_len {ok : Bool} {R : List Tok → Option (Tree × List Tok)} {ts r : List Tok} {a : Tree} (hR : ∀ ts a r, R ts = some (a, r) → Less ok false ts r) (h : hasP ok R ts = some (a, r)) : Less ok false ts r := by
  unfold hasP at h
  split at h
  · cases h
  · rename_i t1 h1
    split at h
    · cases h
    · rename_i a2 t2 h2
      split at h
      · cases h
      · rename_i t3 h3
        split at h
        · cases h
        · rename_i b t4 h4
          split at h
          · cases h
          · rename_i t5 h5
            cases h
            have := must_len h1
            have := (hR _ _ _ h2).1
            have := must_len h3
            have := (hR _ _ _ h4).1
            have := must_len h5
            exact ⟨by omega, fun _ => by omega, fun _ => this.2⟩
def Mode.tail : Mode → Bool
  | .orT _ | .andT _ | .sumT _ | .prodT _ => true
  | _ => false
theorem less_adv {ok : Bool} {t : Bool} {ts t1 r : List Tok} (h : adv ok ts = some t1) (k : Less ok t t1 r) : Less ok false ts r := by
  have g := adv_len h
  exact ⟨by have := k.1; omega, fun _ => by have := k.1; omega, fun _ => k.2.2 g.2⟩
theorem less_adv0 {ok : Bool} {ts t1 : List Tok} (h : adv ok ts = some t1) : Less ok false ts t1 := by
  have g := adv_len h
  exact ⟨by omega, fun _ => by omega, fun _ => g.2⟩
theorem less_trans {ok a b : Bool} {ts t1 r : List Tok} (h : Less ok a ts t1) (k : Less ok b t1 r) : Less ok a ts r :=
  ⟨by have := h.1; have := k.1; omega, fun q => by have := h.2.1 q; have := k.1; omega, fun q => k.2.2 (h.2.2 q)⟩
theorem less_weak {ok : Bool} {a : Bool} {ts r : List Tok} (h : Less ok false ts r) : Less ok a ts r := ⟨h.1, fun _ => h.2.1 rfl, h.2.2⟩
/-- What is left is shorter, and not empty where a fault stands behind. -/
theorem P_len (V : Bs → Nat) (ok : Bool) : ∀ (n : Nat) (m : Mode) (ts : List Tok) (a : Tree) (r : List Tok), P V ok n m ts = some (a, r) → Less ok m.tail ts r := by
  intro n
  induction n with
  | zero => intro m ts a r h; cases h
  | succ n ih =>
    have chain : ∀ (m1 : Mode) (m2 : Tree → Mode) (ts r : List Tok) (a : Tree), m1.tail = false → (match P V ok n m1 ts with | none => none | some (a, r) => P V ok n (m2 a) r) = some (a, r) → Less ok false ts r := by
      intro m1 m2 ts r a hm h
      split at h
      · cases h
      · rename_i b t1 h1
        have g := ih _ _ _ _ h1
        rw [hm] at g
        exact less_trans g (ih _ _ _ _ h)
    have tailr : ∀ (c : Prop) [Decidable c] (m1 : Mode) (m2 : Tree → Mode) (ts r : List Tok) (a x : Tree), (if c then (match adv ok ts with | none => none | some t1 => match P V ok n m1 t1 with | none => none | some (b, r) => P V ok n (m2 b) r) else some (x, ts)) = some (a, r) → Less ok true ts r := by
      intro c _ m1 m2 ts r a x h
      split at h
      · split at h
        · cases h
        · rename_i t1 h1
          split at h
          · cases h
          · rename_i b t2 h2
            exact less_weak (less_adv h1 (less_trans (ih _ _ _ _ h2) (ih _ _ _ _ h)))
      · cases h; exact ⟨Nat.le_refl _, (fun h => by cases h), fun q => q⟩
    have hor : ∀ ts a r, P V ok n .or ts = some (a, r) → Less ok false ts r := fun ts a r h => ih _ _ _ _ h
    intro m ts a r h
    cases m with
    | or => exact chain .and Mode.orT ts r a rfl (by simpa only [P] using h)
    | and => exact chain .not Mode.andT ts r a rfl (by simpa only [P] using h)
    | sum => exact chain .prod Mode.sumT ts r a rfl (by simpa only [P] using h)
    | prod => exact chain .signed Mode.prodT ts r a rfl (by simpa only [P] using h)
    | orT x => exact tailr _ .and (fun b => Mode.orT (two wor x b)) ts r a x (by simpa only [P] using h)
    | andT x => exact tailr _ .not (fun b => Mode.andT (two wand x b)) ts r a x (by simpa only [P] using h)
    | sumT x => exact tailr _ .prod (fun b => Mode.sumT (two ((ts.headD ⟨0, []⟩).s) x b)) ts r a x (by simpa only [P] using h)
    | prodT x => exact tailr _ .signed (fun b => Mode.prodT (two ((ts.headD ⟨0, []⟩).s) x b)) ts r a x (by simpa only [P] using h)
    | not =>
      simp only [P] at h
      split at h
      · split at h
        · cases h
        · rename_i t1 h1
          split at h
          · cases h
          · rename_i b t2 h2
            cases h
            exact less_adv h1 (ih _ _ _ _ h2)
      · split at h
        · cases h
        · rename_i b t2 h2
          have g2 := ih _ _ _ _ h2
          split at h
          · cases h; exact g2
          · split at h
            · split at h
              · cases h
              · rename_i t3 h3
                split at h
                · cases h
                · rename_i c t4 h4
                  cases h
                  exact less_trans g2 (less_adv h3 (ih _ _ _ _ h4))
            · cases h; exact g2
    | signed =>
      simp only [P] at h
      split at h
      · split at h
        · cases h
        · rename_i t1 h1
          split at h
          · cases h
          · rename_i b t2 h2
            cases h
            exact less_adv h1 (ih _ _ _ _ h2)
      · have g := ih _ _ _ _ h
        exact g
    | atom =>
      cases ts with
      | nil => simp only [P] at h; cases h
      | cons t ts =>
        simp only [P] at h
        split at h
        · split at h
          · cases h
          · rename_i t1 h1
            cases h
            exact less_adv0 h1
        · split at h
          · split at h
            · cases h
            · rename_i t1 h1
              cases h
              exact less_adv0 h1
          · split at h
            · split at h
              · cases h
              · split at h
                · cases h
                · rename_i t1 h1
                  split at h
                  · split at h
                    · cases h
                    · rename_i b t2 h2
                      cases h
                      exact less_adv h1 (inside_len hor h2)
                  · split at h
                    · exact less_adv h1 (hasP_len hor h)
                    · cases h; exact less_adv0 h1
            · exact inside_len hor h
end Go.Proofs.YtdomglkcfecnnaaGreat
/- Walks: the reader's small steps: isDigit, isLetter, digits, number, sign, is. -/
namespace Go.Proofs.YtdomglkcfecnnaaGreat
open Go.RowKit Go.Shelf
/-- The reader in memory. -/
def Rd (w : World) (r : Nat) (s : Bs) (a : Nat) (k : Nat) (g : Bs) : Prop := w.heap[r]? = some (.cells #[.string (tx s), .int .i64 a, .int .i64 k, .string (tx g)] 157 (0, 0))
theorem Rd.cells {w : World} {r : Nat} {s : Bs} {a k : Nat} {g : Bs} (h : Rd w r s a k g) : w.cell? ⟨r, 0, none⟩ = some (.string (tx s)) ∧ w.cell? ⟨r, 1, none⟩ = some (.int .i64 a) ∧ w.cell? ⟨r, 2, none⟩ = some (.int .i64 k) ∧ w.cell? ⟨r, 3, none⟩ = some (.string (tx g)) ∧ (∀ j, w.frozen? ⟨r, j, none⟩ = false) ∧ r < w.heap.size := by
  unfold Rd at h
  exact ⟨by simp [World.cell?, h], by simp [World.cell?, h], by simp [World.cell?, h], by simp [World.cell?, h], fun j => by simp [World.frozen?, h], (Array.getElem?_eq_some_iff.1 h).1⟩
theorem Rd.at {w : World} {r : Nat} {s : Bs} {a k : Nat} {g : Bs} (h : Rd w r s a k g) (b : Nat) : Rd (w.setCell ⟨r, 1, none⟩ (.int .i64 b)) r s b k g := set_block h _
theorem Rd.kind {w : World} {r : Nat} {s : Bs} {a k : Nat} {g : Bs} (h : Rd w r s a k g) (b : Nat) : Rd (w.setCell ⟨r, 2, none⟩ (.int .i64 b)) r s a b g := set_block h _
theorem Rd.got {w : World} {r : Nat} {s : Bs} {a k : Nat} {g : Bs} (h : Rd w r s a k g) (b : Bs) : Rd (w.setCell ⟨r, 3, none⟩ (.string (tx b))) r s a k b := set_block h _
theorem But.cell {r : Nat} {w w' : World} (h : But [r] w w') (o : Nat) (v : Value) : But [r] w (w'.setCell ⟨r, o, none⟩ v) := h.set _ _ (by simp)
theorem But.drewN {l : List Nat} {w w' : World} (h : But l w w') (n : Nat) : But l w (w'.drewN n) := ⟨h.os, h.tape, h.output, h.size, h.block⟩
theorem Rd.drewN {w : World} {r : Nat} {s : Bs} {a k : Nat} {g : Bs} (h : Rd w r s a k g) (n : Nat) : Rd (w.drewN n) r s a k g := h
theorem Rd.drew {w : World} {r : Nat} {s : Bs} {a k : Nat} {g : Bs} (h : Rd w r s a k g) : Rd w.drew r s a k g := h
theorem digit_dec (c : UInt8) : isDig c = decide (48 ≤ (c.toNat : Int) ∧ (c.toNat : Int) ≤ 57) := by
  unfold isDig
  rw [Bool.eq_iff_iff]
  simp [UInt8.le_iff_toNat_le]
  omega
theorem let_dec (c : UInt8) : isLet c = decide (97 ≤ (c.toNat : Int) ∧ (c.toNat : Int) ≤ 122) := by
  unfold isLet
  rw [Bool.eq_iff_iff]
  simp [UInt8.le_iff_toNat_le]
  omega
theorem wisDigit (c : UInt8) (w : World) : Calls Tryz.prog 99 #[.int .u8 (c.toNat : Int)] w fun e w' => e = .returned (.bool (isDig c)) ∧ w = w' := by
  have hc := c.toNat_lt
  rw [digit_dec]
  by_cases h1 : 48 ≤ (c.toNat : Int)
  · by_cases h2 : (c.toNat : Int) ≤ 57
    · go_enter Tryz.func99, Tryz.ntmps99
      go_wp2
      go_ret
      exact ⟨by rw [decide_eq_true ⟨h1, h2⟩]; rfl, rfl⟩
    · go_enter Tryz.func99, Tryz.ntmps99
      go_wp2
      go_ret
      exact ⟨by rw [decide_eq_false (by omega)]; rfl, rfl⟩
  · go_enter Tryz.func99, Tryz.ntmps99
    go_wp2
    go_ret
    exact ⟨by rw [decide_eq_false (by omega)]; rfl, rfl⟩
theorem wisLetter (c : UInt8) (w : World) : Calls Tryz.prog 101 #[.int .u8 (c.toNat : Int)] w fun e w' => e = .returned (.bool (isLet c)) ∧ w = w' := by
  have hc := c.toNat_lt
  rw [let_dec]
  by_cases h1 : 97 ≤ (c.toNat : Int)
  · by_cases h2 : (c.toNat : Int) ≤ 122
    · go_enter Tryz.func101, Tryz.ntmps101
      go_wp2
      go_ret
      exact ⟨by rw [decide_eq_true ⟨h1, h2⟩]; rfl, rfl⟩
    · go_enter Tryz.func101, Tryz.ntmps101
      go_wp2
      go_ret
      exact ⟨by rw [decide_eq_false (by omega)]; rfl, rfl⟩
  · go_enter Tryz.func101, Tryz.ntmps101
    go_wp2
    go_ret
    exact ⟨by rw [decide_eq_false (by omega)]; rfl, rfl⟩
theorem takeWhile_at (p : UInt8 → Bool) (l : Bs) (j : Nat) (hj : j ≤ (l.takeWhile p).length) (hlt : j < l.length) : (p (l.getD j 0) = true → j + 1 ≤ (l.takeWhile p).length) ∧ (p (l.getD j 0) = false → j = (l.takeWhile p).length) := by
  induction l generalizing j with
  | nil => simp at hlt
  | cons c t ih =>
    cases j with
    | zero =>
      simp only [List.getD_cons_zero, List.takeWhile_cons]
      constructor
      · intro h; rw [if_pos h]; simp
      · intro h; rw [if_neg (by simp [h])]; rfl
    | succ j =>
      simp only [List.getD_cons_succ]
      by_cases hc : p c = true
      · simp only [List.takeWhile_cons, hc, if_true, List.length_cons] at hj ⊢
        have := ih j (by omega) (by simpa using hlt)
        exact ⟨fun h => by have := this.1 h; omega, fun h => by have := this.2 h; omega⟩
      · simp only [List.takeWhile_cons, hc] at hj
        simp at hj
theorem takeWhile_le (p : UInt8 → Bool) (l : Bs) : (l.takeWhile p).length ≤ l.length := by
  induction l with
  | nil => simp
  | cons c t ih => simp only [List.takeWhile_cons]; split <;> simp <;> omega
theorem getD_drop (l : Bs) (a j : Nat) : (l.drop a).getD j 0 = l.getD (a + j) 0 := by
  simp [List.getD_eq_getElem?_getD]
theorem tx_at (l : Bs) (i : Nat) (h : i < l.length) : (tx l)[i]'(by simpa [tx, ByteArray.size] using h) = l.getD i 0 := by
  rw [List.getD_eq_getElem?_getD, List.getElem?_eq_getElem h]
  simp [tx]
  rfl
theorem quiet_eq {P : Program} {f : FuncId} {args : Array Value} {w : World} {n : Nat} {v : Value} (h : Calls P f args (w.drewN n) fun e w' => e = .returned v ∧ w.drewN n = w') : Calls P f args (w.drewN n) fun e w'' => e = .returned v ∧ ∃ m, w'' = w.drewN m :=
  h.mono fun _ _ ⟨he, hm⟩ => ⟨he, n, hm.symm⟩
set_option maxRecDepth 100000 in
set_option maxHeartbeats 2000000 in
theorem wdigits (r : Nat) (s : Bs) (a k : Nat) (g : Bs) (hs : s.length ≤ 1000000) (ha : a ≤ s.length) (w : World) (h : Rd w r s a k g) :
    Calls Tryz.prog 129 #[.pointer (some ⟨r, 0, none⟩)] w fun e w' => e = .returned (.int .i64 (cntDig (s.drop a))) ∧ Rd w' r s (a + cntDig (s.drop a)) k g ∧ But [r] w w' := by
  have hsz : (tx s).size = s.length := by simp [tx, ByteArray.size]
  have HS := Lib.hid hsz
  have HCL := Lib.hid (show cntDig (s.drop a) ≤ s.length - a by have := takeWhile_le isDig (s.drop a); simpa [cntDig] using this)
  have HR := Lib.hid h
  obtain ⟨c0, c1, c2, c3, fr, hlt⟩ := h.cells
  clear h hsz
  go_enter Tryz.func129, Tryz.ntmps129
  go_wp2_with fail
  clear c0 c1 c2 c3 fr
  go_loopg [] (s.length - a) (fun n wr => ∃ p : Nat, a ≤ p ∧ p + n = s.length ∧ p - a ≤ cntDig (s.drop a) ∧ Hid (Rd wr r s p k g) ∧ Hid (But [r] w wr))
  case atStart => exact ⟨a, by omega, by omega, by omega, HR, Lib.hid (But.refl _ _)⟩
  case round =>
    obtain ⟨p, hap, hp, hc, HR1, HB1⟩ := hrel
    obtain ⟨c0, c1, c2, c3, fr, hlt⟩ := HR1.out.cells
    have f1 := fr 1
    clear fr c2 c3
    have HPA := Lib.hid (show a + (p - a) = p by omega)
    by_cases q1 : p < (tx s).size
    · have q1' : p < s.length := by have := HS.out; omega
      have HA := Lib.hid (takeWhile_at isDig (s.drop a) (p - a) hc (by simp; omega))
      rw [getD_drop, HPA.out] at HA
      have HX := Lib.hid (tx_at s p q1')
      cases q2 : isDig (s.getD p 0)
      · have HD : Hid (∀ W, Calls Tryz.prog 99 #[.int .u8 (((tx s)[p]'q1).toNat : Int)] W fun e w' => e = .returned (.bool false) ∧ W = w') := Lib.hid (fun W => by rw [HX.out, ← q2]; exact wisDigit _ W)
        have HV := Lib.hid (HA.out.2 q2)
        clear q2 HA
        go_wp2_with fail
        go_quiet ((go_at_call 99; exact quiet_eq (HD.out _)))
        go_wp2
        go_ret
        have e : cntDig (s.drop a) = p - a := HV.out.symm
        rw [e, HPA.out]
        exact ⟨ret_int (by omega), HR1.out.drewN _, HB1.out.drewN _⟩
      · have HD : Hid (∀ W, Calls Tryz.prog 99 #[.int .u8 (((tx s)[p]'q1).toNat : Int)] W fun e w' => e = .returned (.bool true) ∧ W = w') := Lib.hid (fun W => by rw [HX.out, ← q2]; exact wisDigit _ W)
        have HV := Lib.hid (HA.out.1 q2)
        clear q2 HA
        go_wp2_with fail
        go_quiet ((go_at_call 99; exact quiet_eq (HD.out _)))
        go_wp2
        go_roundg (gk - 1)
        case measure => omega
        case rel => exact ⟨p + 1, by omega, by omega, by have : p - a + 1 ≤ cntDig (s.drop a) := HV.out; omega, Lib.hid ((HR1.out.drewN _).at (p + 1)), Lib.hid ((HB1.out.drewN _).cell _ _)⟩
    · have q1' : ¬ p < s.length := by have := HS.out; omega
      have HV := Lib.hid (show cntDig (s.drop a) = p - a by have := HCL.out; omega)
      go_wp2_with fail
      go_quiet (fail)
      go_wp2
      go_ret
      rw [HV.out, HPA.out]
      exact ⟨ret_int (by omega), HR1.out.drewN _, HB1.out.drewN _⟩
end Go.Proofs.YtdomglkcfecnnaaGreat
