/- Own texts, merged: S1, S2. -/
import Derived.Lib.IndexMore
import Derived.Test.YtdomglkcfecnnaaGreatFin
import Derived.Test.YtdomglkcfecnnaaGreatMP18
import Derived.Test.YtdomglkcfecnnaaGreatMP24
/- Types and values of rules: plain. No program in sight. -/
namespace Go.Proofs.YtdomglkcfecnnaaGreat
open Ieee
/-- A value: its type, its number's bits, its text, its truth. -/
structure Vl where
  t : Int
  n : Nat
  s : Bs
  b : Bool
structure Bnd where
  nm : Bs
  v : Vl
def wplus : Bs := [43]
def wminus : Bs := [45]
def wtimes : Bs := [42]
def wover : Bs := [47]
def weq : Bs := [61]
def wne : Bs := [33, 61]
def wlt : Bs := [60]
def wle : Bs := [60, 61]
def wgt : Bs := [62]
def wge : Bs := [62, 61]
/-- How many parts an Op takes. -/
def takesT (op : Bs) : Option Nat :=
  if op = wnum ∨ op = wtext ∨ op = wname then some 0
  else if op = wnot ∨ op = wneg ∨ op = wlen ∨ op = wabs then some 1
  else if op = wor ∨ op = wand ∨ op = whas ∨ isCmp op = true ∨ op = wplus ∨ op = wminus ∨ op = wtimes ∨ op = wover then some 2 else none
def plainV (v : Vl) : Option Vl :=
  if v.t = 1 then some ⟨1, v.n, [], false⟩ else if v.t = 2 then some ⟨2, 0, v.s, false⟩ else if v.t = 3 then some ⟨3, 0, [], v.b⟩ else none
def firstB (s : Bs) : List Bnd → Option Bnd
  | [] => none
  | b :: r => if b.nm = s then some b else firstB s r
/-- What a name stands for. -/
def boundV (L : List Bnd) (s : Bs) : Option Vl := match firstB s L with
  | none => none
  | some b => plainV b.v
def allT (k : Nat) (l : List Nat) : Bool := l.all (fun x => x == k)
def giv (k : Nat) (c : Bool) : Nat := if c = true then k else 0
/-- The type of an Op that takes parts, of parts of types. -/
def madeT (op : Bs) (l : List Nat) : Nat :=
  if op = wplus ∨ op = wminus ∨ op = wtimes ∨ op = wover ∨ op = wneg ∨ op = wabs then giv 1 (allT 1 l)
  else if op = wlen then giv 1 (allT 2 l)
  else if op = wlt ∨ op = wle ∨ op = wgt ∨ op = wge then giv 3 (allT 1 l)
  else if op = weq ∨ op = wne then giv 3 (l.getD 0 0 == l.getD 1 0)
  else if op = whas then giv 3 (allT 2 l)
  else giv 3 (allT 3 l)
mutual
/-- The type of a tree, and why it has none. -/
def tyT (L : List Bnd) : Tree → Nat × Nat
  | .mk op _ s c =>
    if (tyL L c).2 ≠ 0 then (0, (tyL L c).2)
    else if takesT op ≠ some c.length then (0, 190)
    else if op = wnum then (1, 0)
    else if op = wtext then (2, 0)
    else if op = wname then (match boundV L s with | none => (0, 6) | some v => (v.t.toNat, 0))
    else if madeT op (tyL L c).1 = 0 then (0, 190) else (madeT op (tyL L c).1, 0)
def tyL (L : List Bnd) : List Tree → List Nat × Nat
  | [] => ([], 0)
  | t :: r => if (tyT L t).2 ≠ 0 then ([], (tyT L t).2) else ((tyT L t).1 :: (tyL L r).1, (tyL L r).2)
end
/-- The types of the parts ahead of place j have been found; what the whole row gives. -/
theorem tyL_bad (L : List Bnd) : ∀ (c : List Tree) (j : Nat) (h : j < c.length), (∀ i (hi : i < c.length), i < j → (tyT L c[i]).2 = 0) → (tyT L c[j]).2 ≠ 0 → (tyL L c).2 = (tyT L c[j]).2
  | [], j, h, _, _ => by cases h
  | t :: r, 0, h, _, hb => by
    simp only [List.getElem_cons_zero] at hb ⊢
    rw [tyL, if_pos hb]
  | t :: r, j + 1, h, ha, hb => by
    have h0 := ha 0 (by simp) (by omega)
    simp only [List.getElem_cons_zero] at h0
    simp only [List.getElem_cons_succ] at hb ⊢
    rw [tyL, if_neg (by rw [h0]; decide)]
    exact tyL_bad L r j (by simpa using h) (fun i hi hij => by have := ha (i + 1) (by simpa using hi) (by omega); simpa using this) hb
theorem tyL_good (L : List Bnd) : ∀ (c : List Tree), (∀ i (hi : i < c.length), (tyT L c[i]).2 = 0) → tyL L c = (c.map (fun t => (tyT L t).1), 0)
  | [], _ => by rw [tyL]; rfl
  | t :: r, h => by
    have h0 := h 0 (by simp)
    simp only [List.getElem_cons_zero] at h0
    rw [tyL, if_neg (by rw [h0]; decide), tyL_good L r (fun i hi => by have := h (i + 1) (by simpa using hi); simpa using this)]
    rfl
theorem tyL_all (L : List Bnd) : ∀ (c : List Tree), (tyL L c).2 = 0 → ∀ i (hi : i < c.length), (tyT L c[i]).2 = 0
  | [], _, i, hi => by cases hi
  | t :: r, h, i, hi => by
    rw [tyL] at h
    by_cases q : (tyT L t).2 = 0
    · rw [if_neg (by rw [q]; decide)] at h
      cases i with
      | zero => exact q
      | succ i => exact tyL_all L r h i (by simpa using hi)
    · rw [if_pos q] at h
      exact absurd h q
/-- A number up to which NaN it is. -/
def fA (x : Nat) : Option Nat := if isNan x = true then none else some x
def arA (f : Nat → Nat → Option Nat) : Option Nat → Option Nat → Option Nat
  | some x, some y => f x y
  | _, _ => none
def cmpA (p : Ordering → Bool) : Option Nat → Option Nat → Bool
  | some x, some y => (match double.order x y with | some c => p c | none => false)
  | _, _ => false
def negA : Option Nat → Option Nat
  | some x => some (x ^^^ 2 ^ 63)
  | none => none
def absA : Option Nat → Option Nat
  | some x => some (x % 2 ^ 63)
  | none => none
/-- A value, its number up to which NaN it is. -/
structure Av where
  t : Nat
  n : Option Nat
  s : Bs
  b : Bool
def avN (n : Option Nat) : Av := ⟨1, n, [], false⟩
def avB (b : Bool) : Av := ⟨3, some 0, [], b⟩
def av0 : Av := ⟨0, some 0, [], false⟩
def avOf (v : Vl) : Av := ⟨v.t.toNat, fA v.n, v.s, v.b⟩
def isLt : Ordering → Bool | .lt => true | _ => false
def isEq : Ordering → Bool | .eq => true | _ => false
def isGt : Ordering → Bool | .gt => true | _ => false
def isLe : Ordering → Bool | .lt => true | .eq => true | .gt => false
def isGe : Ordering → Bool | .gt => true | .eq => true | .lt => false
def eqA (a b : Av) : Bool := if a.t = 1 then cmpA isEq a.n b.n else if a.t = 2 then decide (a.s = b.s) else a.b == b.b
/-- The value of an Op of one; C counts a text's clusters. -/
def oneA (C : Bs → Nat) (op : Bs) (a : Av) : Av :=
  if op = wnot then avB (!a.b) else if op = wneg then avN (negA a.n) else if op = wabs then avN (absA a.n) else avN (some (ofI (C a.s)))
/-- The value of an Op of two. -/
def twoA (op : Bs) (a b : Av) : Av :=
  if op = wor then avB (a.b || b.b) else if op = wand then avB (a.b && b.b) else if op = whas then avB (Lib.contains a.s b.s)
  else if op = weq then avB (eqA a b) else if op = wne then avB (!eqA a b)
  else if op = wlt then avB (cmpA isLt a.n b.n) else if op = wle then avB (cmpA isLe a.n b.n) else if op = wgt then avB (cmpA isGt a.n b.n) else if op = wge then avB (cmpA isGe a.n b.n)
  else if op = wplus then avN (arA double.add a.n b.n) else if op = wminus then avN (arA double.sub a.n b.n) else if op = wtimes then avN (arA double.mul a.n b.n) else avN (arA double.div a.n b.n)
mutual
def evT (C : Bs → Nat) (L : List Bnd) : Tree → Av
  | .mk op n s c =>
    if op = wnum then avN (fA n) else if op = wtext then ⟨2, some 0, s, false⟩
    else if op = wname then (match boundV L s with | some v => avOf v | none => av0)
    else match evL C L c with
      | [a] => oneA C op a
      | [a, b] => twoA op a b
      | _ => av0
def evL (C : Bs → Nat) (L : List Bnd) : List Tree → List Av
  | [] => []
  | t :: r => evT C L t :: evL C L r
end
/-- What a text holds, of binds: a truth, and why not. -/
def holdsA (C : Bs → Nat) (L : List Bnd) (p : Tree × Nat) : Bool × Nat :=
  if p.2 ≠ 0 then (false, p.2)
  else if 16 < depT p.1 then (false, 190)
  else if (tyT L p.1).2 ≠ 0 then (false, (tyT L p.1).2)
  else if (evT C L p.1).t ≠ 3 then (false, 1) else ((evT C L p.1).b, 0)
end Go.Proofs.YtdomglkcfecnnaaGreat
/- The Ops of rules, told apart: one of twenty, or none of them (printed by gen_s2.py). -/
namespace Go.Proofs.YtdomglkcfecnnaaGreat
open Go.RowKit Go.Shelf
theorem opcases (op : Bs) : (op = [110, 117, 109] ∧ ((tx op).toList == [110, 117, 109]) = true ∧ ((tx op).toList == [116, 101, 120, 116]) = false ∧ ((tx op).toList == [110, 97, 109, 101]) = false ∧ ((tx op).toList == [110, 111, 116]) = false ∧ ((tx op).toList == [110, 101, 103]) = false ∧ ((tx op).toList == [108, 101, 110]) = false ∧ ((tx op).toList == [97, 98, 115]) = false ∧ ((tx op).toList == [111, 114]) = false ∧ ((tx op).toList == [97, 110, 100]) = false ∧ ((tx op).toList == [104, 97, 115]) = false ∧ ((tx op).toList == [61]) = false ∧ ((tx op).toList == [33, 61]) = false ∧ ((tx op).toList == [60]) = false ∧ ((tx op).toList == [60, 61]) = false ∧ ((tx op).toList == [62]) = false ∧ ((tx op).toList == [62, 61]) = false ∧ ((tx op).toList == [43]) = false ∧ ((tx op).toList == [45]) = false ∧ ((tx op).toList == [42]) = false ∧ ((tx op).toList == [47]) = false) ∨
    (op = [116, 101, 120, 116] ∧ ((tx op).toList == [110, 117, 109]) = false ∧ ((tx op).toList == [116, 101, 120, 116]) = true ∧ ((tx op).toList == [110, 97, 109, 101]) = false ∧ ((tx op).toList == [110, 111, 116]) = false ∧ ((tx op).toList == [110, 101, 103]) = false ∧ ((tx op).toList == [108, 101, 110]) = false ∧ ((tx op).toList == [97, 98, 115]) = false ∧ ((tx op).toList == [111, 114]) = false ∧ ((tx op).toList == [97, 110, 100]) = false ∧ ((tx op).toList == [104, 97, 115]) = false ∧ ((tx op).toList == [61]) = false ∧ ((tx op).toList == [33, 61]) = false ∧ ((tx op).toList == [60]) = false ∧ ((tx op).toList == [60, 61]) = false ∧ ((tx op).toList == [62]) = false ∧ ((tx op).toList == [62, 61]) = false ∧ ((tx op).toList == [43]) = false ∧ ((tx op).toList == [45]) = false ∧ ((tx op).toList == [42]) = false ∧ ((tx op).toList == [47]) = false) ∨
    (op = [110, 97, 109, 101] ∧ ((tx op).toList == [110, 117, 109]) = false ∧ ((tx op).toList == [116, 101, 120, 116]) = false ∧ ((tx op).toList == [110, 97, 109, 101]) = true ∧ ((tx op).toList == [110, 111, 116]) = false ∧ ((tx op).toList == [110, 101, 103]) = false ∧ ((tx op).toList == [108, 101, 110]) = false ∧ ((tx op).toList == [97, 98, 115]) = false ∧ ((tx op).toList == [111, 114]) = false ∧ ((tx op).toList == [97, 110, 100]) = false ∧ ((tx op).toList == [104, 97, 115]) = false ∧ ((tx op).toList == [61]) = false ∧ ((tx op).toList == [33, 61]) = false ∧ ((tx op).toList == [60]) = false ∧ ((tx op).toList == [60, 61]) = false ∧ ((tx op).toList == [62]) = false ∧ ((tx op).toList == [62, 61]) = false ∧ ((tx op).toList == [43]) = false ∧ ((tx op).toList == [45]) = false ∧ ((tx op).toList == [42]) = false ∧ ((tx op).toList == [47]) = false) ∨
    (op = [110, 111, 116] ∧ ((tx op).toList == [110, 117, 109]) = false ∧ ((tx op).toList == [116, 101, 120, 116]) = false ∧ ((tx op).toList == [110, 97, 109, 101]) = false ∧ ((tx op).toList == [110, 111, 116]) = true ∧ ((tx op).toList == [110, 101, 103]) = false ∧ ((tx op).toList == [108, 101, 110]) = false ∧ ((tx op).toList == [97, 98, 115]) = false ∧ ((tx op).toList == [111, 114]) = false ∧ ((tx op).toList == [97, 110, 100]) = false ∧ ((tx op).toList == [104, 97, 115]) = false ∧ ((tx op).toList == [61]) = false ∧ ((tx op).toList == [33, 61]) = false ∧ ((tx op).toList == [60]) = false ∧ ((tx op).toList == [60, 61]) = false ∧ ((tx op).toList == [62]) = false ∧ ((tx op).toList == [62, 61]) = false ∧ ((tx op).toList == [43]) = false ∧ ((tx op).toList == [45]) = false ∧ ((tx op).toList == [42]) = false ∧ ((tx op).toList == [47]) = false) ∨
    (op = [110, 101, 103] ∧ ((tx op).toList == [110, 117, 109]) = false ∧ ((tx op).toList == [116, 101, 120, 116]) = false ∧ ((tx op).toList == [110, 97, 109, 101]) = false ∧ ((tx op).toList == [110, 111, 116]) = false ∧ ((tx op).toList == [110, 101, 103]) = true ∧ ((tx op).toList == [108, 101, 110]) = false ∧ ((tx op).toList == [97, 98, 115]) = false ∧ ((tx op).toList == [111, 114]) = false ∧ ((tx op).toList == [97, 110, 100]) = false ∧ ((tx op).toList == [104, 97, 115]) = false ∧ ((tx op).toList == [61]) = false ∧ ((tx op).toList == [33, 61]) = false ∧ ((tx op).toList == [60]) = false ∧ ((tx op).toList == [60, 61]) = false ∧ ((tx op).toList == [62]) = false ∧ ((tx op).toList == [62, 61]) = false ∧ ((tx op).toList == [43]) = false ∧ ((tx op).toList == [45]) = false ∧ ((tx op).toList == [42]) = false ∧ ((tx op).toList == [47]) = false) ∨
    (op = [108, 101, 110] ∧ ((tx op).toList == [110, 117, 109]) = false ∧ ((tx op).toList == [116, 101, 120, 116]) = false ∧ ((tx op).toList == [110, 97, 109, 101]) = false ∧ ((tx op).toList == [110, 111, 116]) = false ∧ ((tx op).toList == [110, 101, 103]) = false ∧ ((tx op).toList == [108, 101, 110]) = true ∧ ((tx op).toList == [97, 98, 115]) = false ∧ ((tx op).toList == [111, 114]) = false ∧ ((tx op).toList == [97, 110, 100]) = false ∧ ((tx op).toList == [104, 97, 115]) = false ∧ ((tx op).toList == [61]) = false ∧ ((tx op).toList == [33, 61]) = false ∧ ((tx op).toList == [60]) = false ∧ ((tx op).toList == [60, 61]) = false ∧ ((tx op).toList == [62]) = false ∧ ((tx op).toList == [62, 61]) = false ∧ ((tx op).toList == [43]) = false ∧ ((tx op).toList == [45]) = false ∧ ((tx op).toList == [42]) = false ∧ ((tx op).toList == [47]) = false) ∨
    (op = [97, 98, 115] ∧ ((tx op).toList == [110, 117, 109]) = false ∧ ((tx op).toList == [116, 101, 120, 116]) = false ∧ ((tx op).toList == [110, 97, 109, 101]) = false ∧ ((tx op).toList == [110, 111, 116]) = false ∧ ((tx op).toList == [110, 101, 103]) = false ∧ ((tx op).toList == [108, 101, 110]) = false ∧ ((tx op).toList == [97, 98, 115]) = true ∧ ((tx op).toList == [111, 114]) = false ∧ ((tx op).toList == [97, 110, 100]) = false ∧ ((tx op).toList == [104, 97, 115]) = false ∧ ((tx op).toList == [61]) = false ∧ ((tx op).toList == [33, 61]) = false ∧ ((tx op).toList == [60]) = false ∧ ((tx op).toList == [60, 61]) = false ∧ ((tx op).toList == [62]) = false ∧ ((tx op).toList == [62, 61]) = false ∧ ((tx op).toList == [43]) = false ∧ ((tx op).toList == [45]) = false ∧ ((tx op).toList == [42]) = false ∧ ((tx op).toList == [47]) = false) ∨
    (op = [111, 114] ∧ ((tx op).toList == [110, 117, 109]) = false ∧ ((tx op).toList == [116, 101, 120, 116]) = false ∧ ((tx op).toList == [110, 97, 109, 101]) = false ∧ ((tx op).toList == [110, 111, 116]) = false ∧ ((tx op).toList == [110, 101, 103]) = false ∧ ((tx op).toList == [108, 101, 110]) = false ∧ ((tx op).toList == [97, 98, 115]) = false ∧ ((tx op).toList == [111, 114]) = true ∧ ((tx op).toList == [97, 110, 100]) = false ∧ ((tx op).toList == [104, 97, 115]) = false ∧ ((tx op).toList == [61]) = false ∧ ((tx op).toList == [33, 61]) = false ∧ ((tx op).toList == [60]) = false ∧ ((tx op).toList == [60, 61]) = false ∧ ((tx op).toList == [62]) = false ∧ ((tx op).toList == [62, 61]) = false ∧ ((tx op).toList == [43]) = false ∧ ((tx op).toList == [45]) = false ∧ ((tx op).toList == [42]) = false ∧ ((tx op).toList == [47]) = false) ∨
    (op = [97, 110, 100] ∧ ((tx op).toList == [110, 117, 109]) = false ∧ ((tx op).toList == [116, 101, 120, 116]) = false ∧ ((tx op).toList == [110, 97, 109, 101]) = false ∧ ((tx op).toList == [110, 111, 116]) = false ∧ ((tx op).toList == [110, 101, 103]) = false ∧ ((tx op).toList == [108, 101, 110]) = false ∧ ((tx op).toList == [97, 98, 115]) = false ∧ ((tx op).toList == [111, 114]) = false ∧ ((tx op).toList == [97, 110, 100]) = true ∧ ((tx op).toList == [104, 97, 115]) = false ∧ ((tx op).toList == [61]) = false ∧ ((tx op).toList == [33, 61]) = false ∧ ((tx op).toList == [60]) = false ∧ ((tx op).toList == [60, 61]) = false ∧ ((tx op).toList == [62]) = false ∧ ((tx op).toList == [62, 61]) = false ∧ ((tx op).toList == [43]) = false ∧ ((tx op).toList == [45]) = false ∧ ((tx op).toList == [42]) = false ∧ ((tx op).toList == [47]) = false) ∨
    (op = [104, 97, 115] ∧ ((tx op).toList == [110, 117, 109]) = false ∧ ((tx op).toList == [116, 101, 120, 116]) = false ∧ ((tx op).toList == [110, 97, 109, 101]) = false ∧ ((tx op).toList == [110, 111, 116]) = false ∧ ((tx op).toList == [110, 101, 103]) = false ∧ ((tx op).toList == [108, 101, 110]) = false ∧ ((tx op).toList == [97, 98, 115]) = false ∧ ((tx op).toList == [111, 114]) = false ∧ ((tx op).toList == [97, 110, 100]) = false ∧ ((tx op).toList == [104, 97, 115]) = true ∧ ((tx op).toList == [61]) = false ∧ ((tx op).toList == [33, 61]) = false ∧ ((tx op).toList == [60]) = false ∧ ((tx op).toList == [60, 61]) = false ∧ ((tx op).toList == [62]) = false ∧ ((tx op).toList == [62, 61]) = false ∧ ((tx op).toList == [43]) = false ∧ ((tx op).toList == [45]) = false ∧ ((tx op).toList == [42]) = false ∧ ((tx op).toList == [47]) = false) ∨
    (op = [61] ∧ ((tx op).toList == [110, 117, 109]) = false ∧ ((tx op).toList == [116, 101, 120, 116]) = false ∧ ((tx op).toList == [110, 97, 109, 101]) = false ∧ ((tx op).toList == [110, 111, 116]) = false ∧ ((tx op).toList == [110, 101, 103]) = false ∧ ((tx op).toList == [108, 101, 110]) = false ∧ ((tx op).toList == [97, 98, 115]) = false ∧ ((tx op).toList == [111, 114]) = false ∧ ((tx op).toList == [97, 110, 100]) = false ∧ ((tx op).toList == [104, 97, 115]) = false ∧ ((tx op).toList == [61]) = true ∧ ((tx op).toList == [33, 61]) = false ∧ ((tx op).toList == [60]) = false ∧ ((tx op).toList == [60, 61]) = false ∧ ((tx op).toList == [62]) = false ∧ ((tx op).toList == [62, 61]) = false ∧ ((tx op).toList == [43]) = false ∧ ((tx op).toList == [45]) = false ∧ ((tx op).toList == [42]) = false ∧ ((tx op).toList == [47]) = false) ∨
    (op = [33, 61] ∧ ((tx op).toList == [110, 117, 109]) = false ∧ ((tx op).toList == [116, 101, 120, 116]) = false ∧ ((tx op).toList == [110, 97, 109, 101]) = false ∧ ((tx op).toList == [110, 111, 116]) = false ∧ ((tx op).toList == [110, 101, 103]) = false ∧ ((tx op).toList == [108, 101, 110]) = false ∧ ((tx op).toList == [97, 98, 115]) = false ∧ ((tx op).toList == [111, 114]) = false ∧ ((tx op).toList == [97, 110, 100]) = false ∧ ((tx op).toList == [104, 97, 115]) = false ∧ ((tx op).toList == [61]) = false ∧ ((tx op).toList == [33, 61]) = true ∧ ((tx op).toList == [60]) = false ∧ ((tx op).toList == [60, 61]) = false ∧ ((tx op).toList == [62]) = false ∧ ((tx op).toList == [62, 61]) = false ∧ ((tx op).toList == [43]) = false ∧ ((tx op).toList == [45]) = false ∧ ((tx op).toList == [42]) = false ∧ ((tx op).toList == [47]) = false) ∨
    (op = [60] ∧ ((tx op).toList == [110, 117, 109]) = false ∧ ((tx op).toList == [116, 101, 120, 116]) = false ∧ ((tx op).toList == [110, 97, 109, 101]) = false ∧ ((tx op).toList == [110, 111, 116]) = false ∧ ((tx op).toList == [110, 101, 103]) = false ∧ ((tx op).toList == [108, 101, 110]) = false ∧ ((tx op).toList == [97, 98, 115]) = false ∧ ((tx op).toList == [111, 114]) = false ∧ ((tx op).toList == [97, 110, 100]) = false ∧ ((tx op).toList == [104, 97, 115]) = false ∧ ((tx op).toList == [61]) = false ∧ ((tx op).toList == [33, 61]) = false ∧ ((tx op).toList == [60]) = true ∧ ((tx op).toList == [60, 61]) = false ∧ ((tx op).toList == [62]) = false ∧ ((tx op).toList == [62, 61]) = false ∧ ((tx op).toList == [43]) = false ∧ ((tx op).toList == [45]) = false ∧ ((tx op).toList == [42]) = false ∧ ((tx op).toList == [47]) = false) ∨
    (op = [60, 61] ∧ ((tx op).toList == [110, 117, 109]) = false ∧ ((tx op).toList == [116, 101, 120, 116]) = false ∧ ((tx op).toList == [110, 97, 109, 101]) = false ∧ ((tx op).toList == [110, 111, 116]) = false ∧ ((tx op).toList == [110, 101, 103]) = false ∧ ((tx op).toList == [108, 101, 110]) = false ∧ ((tx op).toList == [97, 98, 115]) = false ∧ ((tx op).toList == [111, 114]) = false ∧ ((tx op).toList == [97, 110, 100]) = false ∧ ((tx op).toList == [104, 97, 115]) = false ∧ ((tx op).toList == [61]) = false ∧ ((tx op).toList == [33, 61]) = false ∧ ((tx op).toList == [60]) = false ∧ ((tx op).toList == [60, 61]) = true ∧ ((tx op).toList == [62]) = false ∧ ((tx op).toList == [62, 61]) = false ∧ ((tx op).toList == [43]) = false ∧ ((tx op).toList == [45]) = false ∧ ((tx op).toList == [42]) = false ∧ ((tx op).toList == [47]) = false) ∨
    (op = [62] ∧ ((tx op).toList == [110, 117, 109]) = false ∧ ((tx op).toList == [116, 101, 120, 116]) = false ∧ ((tx op).toList == [110, 97, 109, 101]) = false ∧ ((tx op).toList == [110, 111, 116]) = false ∧ ((tx op).toList == [110, 101, 103]) = false ∧ ((tx op).toList == [108, 101, 110]) = false ∧ ((tx op).toList == [97, 98, 115]) = false ∧ ((tx op).toList == [111, 114]) = false ∧ ((tx op).toList == [97, 110, 100]) = false ∧ ((tx op).toList == [104, 97, 115]) = false ∧ ((tx op).toList == [61]) = false ∧ ((tx op).toList == [33, 61]) = false ∧ ((tx op).toList == [60]) = false ∧ ((tx op).toList == [60, 61]) = false ∧ ((tx op).toList == [62]) = true ∧ ((tx op).toList == [62, 61]) = false ∧ ((tx op).toList == [43]) = false ∧ ((tx op).toList == [45]) = false ∧ ((tx op).toList == [42]) = false ∧ ((tx op).toList == [47]) = false) ∨
    (op = [62, 61] ∧ ((tx op).toList == [110, 117, 109]) = false ∧ ((tx op).toList == [116, 101, 120, 116]) = false ∧ ((tx op).toList == [110, 97, 109, 101]) = false ∧ ((tx op).toList == [110, 111, 116]) = false ∧ ((tx op).toList == [110, 101, 103]) = false ∧ ((tx op).toList == [108, 101, 110]) = false ∧ ((tx op).toList == [97, 98, 115]) = false ∧ ((tx op).toList == [111, 114]) = false ∧ ((tx op).toList == [97, 110, 100]) = false ∧ ((tx op).toList == [104, 97, 115]) = false ∧ ((tx op).toList == [61]) = false ∧ ((tx op).toList == [33, 61]) = false ∧ ((tx op).toList == [60]) = false ∧ ((tx op).toList == [60, 61]) = false ∧ ((tx op).toList == [62]) = false ∧ ((tx op).toList == [62, 61]) = true ∧ ((tx op).toList == [43]) = false ∧ ((tx op).toList == [45]) = false ∧ ((tx op).toList == [42]) = false ∧ ((tx op).toList == [47]) = false) ∨
    (op = [43] ∧ ((tx op).toList == [110, 117, 109]) = false ∧ ((tx op).toList == [116, 101, 120, 116]) = false ∧ ((tx op).toList == [110, 97, 109, 101]) = false ∧ ((tx op).toList == [110, 111, 116]) = false ∧ ((tx op).toList == [110, 101, 103]) = false ∧ ((tx op).toList == [108, 101, 110]) = false ∧ ((tx op).toList == [97, 98, 115]) = false ∧ ((tx op).toList == [111, 114]) = false ∧ ((tx op).toList == [97, 110, 100]) = false ∧ ((tx op).toList == [104, 97, 115]) = false ∧ ((tx op).toList == [61]) = false ∧ ((tx op).toList == [33, 61]) = false ∧ ((tx op).toList == [60]) = false ∧ ((tx op).toList == [60, 61]) = false ∧ ((tx op).toList == [62]) = false ∧ ((tx op).toList == [62, 61]) = false ∧ ((tx op).toList == [43]) = true ∧ ((tx op).toList == [45]) = false ∧ ((tx op).toList == [42]) = false ∧ ((tx op).toList == [47]) = false) ∨
    (op = [45] ∧ ((tx op).toList == [110, 117, 109]) = false ∧ ((tx op).toList == [116, 101, 120, 116]) = false ∧ ((tx op).toList == [110, 97, 109, 101]) = false ∧ ((tx op).toList == [110, 111, 116]) = false ∧ ((tx op).toList == [110, 101, 103]) = false ∧ ((tx op).toList == [108, 101, 110]) = false ∧ ((tx op).toList == [97, 98, 115]) = false ∧ ((tx op).toList == [111, 114]) = false ∧ ((tx op).toList == [97, 110, 100]) = false ∧ ((tx op).toList == [104, 97, 115]) = false ∧ ((tx op).toList == [61]) = false ∧ ((tx op).toList == [33, 61]) = false ∧ ((tx op).toList == [60]) = false ∧ ((tx op).toList == [60, 61]) = false ∧ ((tx op).toList == [62]) = false ∧ ((tx op).toList == [62, 61]) = false ∧ ((tx op).toList == [43]) = false ∧ ((tx op).toList == [45]) = true ∧ ((tx op).toList == [42]) = false ∧ ((tx op).toList == [47]) = false) ∨
    (op = [42] ∧ ((tx op).toList == [110, 117, 109]) = false ∧ ((tx op).toList == [116, 101, 120, 116]) = false ∧ ((tx op).toList == [110, 97, 109, 101]) = false ∧ ((tx op).toList == [110, 111, 116]) = false ∧ ((tx op).toList == [110, 101, 103]) = false ∧ ((tx op).toList == [108, 101, 110]) = false ∧ ((tx op).toList == [97, 98, 115]) = false ∧ ((tx op).toList == [111, 114]) = false ∧ ((tx op).toList == [97, 110, 100]) = false ∧ ((tx op).toList == [104, 97, 115]) = false ∧ ((tx op).toList == [61]) = false ∧ ((tx op).toList == [33, 61]) = false ∧ ((tx op).toList == [60]) = false ∧ ((tx op).toList == [60, 61]) = false ∧ ((tx op).toList == [62]) = false ∧ ((tx op).toList == [62, 61]) = false ∧ ((tx op).toList == [43]) = false ∧ ((tx op).toList == [45]) = false ∧ ((tx op).toList == [42]) = true ∧ ((tx op).toList == [47]) = false) ∨
    (op = [47] ∧ ((tx op).toList == [110, 117, 109]) = false ∧ ((tx op).toList == [116, 101, 120, 116]) = false ∧ ((tx op).toList == [110, 97, 109, 101]) = false ∧ ((tx op).toList == [110, 111, 116]) = false ∧ ((tx op).toList == [110, 101, 103]) = false ∧ ((tx op).toList == [108, 101, 110]) = false ∧ ((tx op).toList == [97, 98, 115]) = false ∧ ((tx op).toList == [111, 114]) = false ∧ ((tx op).toList == [97, 110, 100]) = false ∧ ((tx op).toList == [104, 97, 115]) = false ∧ ((tx op).toList == [61]) = false ∧ ((tx op).toList == [33, 61]) = false ∧ ((tx op).toList == [60]) = false ∧ ((tx op).toList == [60, 61]) = false ∧ ((tx op).toList == [62]) = false ∧ ((tx op).toList == [62, 61]) = false ∧ ((tx op).toList == [43]) = false ∧ ((tx op).toList == [45]) = false ∧ ((tx op).toList == [42]) = false ∧ ((tx op).toList == [47]) = true) ∨
    ((op ≠ [110, 117, 109] ∧ op ≠ [116, 101, 120, 116] ∧ op ≠ [110, 97, 109, 101] ∧ op ≠ [110, 111, 116] ∧ op ≠ [110, 101, 103] ∧ op ≠ [108, 101, 110] ∧ op ≠ [97, 98, 115] ∧ op ≠ [111, 114] ∧ op ≠ [97, 110, 100] ∧ op ≠ [104, 97, 115] ∧ op ≠ [61] ∧ op ≠ [33, 61] ∧ op ≠ [60] ∧ op ≠ [60, 61] ∧ op ≠ [62] ∧ op ≠ [62, 61] ∧ op ≠ [43] ∧ op ≠ [45] ∧ op ≠ [42] ∧ op ≠ [47]) ∧ ((tx op).toList == [110, 117, 109]) = false ∧ ((tx op).toList == [116, 101, 120, 116]) = false ∧ ((tx op).toList == [110, 97, 109, 101]) = false ∧ ((tx op).toList == [110, 111, 116]) = false ∧ ((tx op).toList == [110, 101, 103]) = false ∧ ((tx op).toList == [108, 101, 110]) = false ∧ ((tx op).toList == [97, 98, 115]) = false ∧ ((tx op).toList == [111, 114]) = false ∧ ((tx op).toList == [97, 110, 100]) = false ∧ ((tx op).toList == [104, 97, 115]) = false ∧ ((tx op).toList == [61]) = false ∧ ((tx op).toList == [33, 61]) = false ∧ ((tx op).toList == [60]) = false ∧ ((tx op).toList == [60, 61]) = false ∧ ((tx op).toList == [62]) = false ∧ ((tx op).toList == [62, 61]) = false ∧ ((tx op).toList == [43]) = false ∧ ((tx op).toList == [45]) = false ∧ ((tx op).toList == [42]) = false ∧ ((tx op).toList == [47]) = false) := by
  by_cases q0 : op = [110, 117, 109]
  · subst q0
    exact .inl (⟨rfl, tx_same _, tx_ne (by decide), tx_ne (by decide), tx_ne (by decide), tx_ne (by decide), tx_ne (by decide), tx_ne (by decide), tx_ne (by decide), tx_ne (by decide), tx_ne (by decide), tx_ne (by decide), tx_ne (by decide), tx_ne (by decide), tx_ne (by decide), tx_ne (by decide), tx_ne (by decide), tx_ne (by decide), tx_ne (by decide), tx_ne (by decide), tx_ne (by decide)⟩)
  by_cases q1 : op = [116, 101, 120, 116]
  · subst q1
    exact .inr (.inl (⟨rfl, tx_ne (by decide), tx_same _, tx_ne (by decide), tx_ne (by decide), tx_ne (by decide), tx_ne (by decide), tx_ne (by decide), tx_ne (by decide), tx_ne (by decide), tx_ne (by decide), tx_ne (by decide), tx_ne (by decide), tx_ne (by decide), tx_ne (by decide), tx_ne (by decide), tx_ne (by decide), tx_ne (by decide), tx_ne (by decide), tx_ne (by decide), tx_ne (by decide)⟩))
  by_cases q2 : op = [110, 97, 109, 101]
  · subst q2
    exact .inr (.inr (.inl (⟨rfl, tx_ne (by decide), tx_ne (by decide), tx_same _, tx_ne (by decide), tx_ne (by decide), tx_ne (by decide), tx_ne (by decide), tx_ne (by decide), tx_ne (by decide), tx_ne (by decide), tx_ne (by decide), tx_ne (by decide), tx_ne (by decide), tx_ne (by decide), tx_ne (by decide), tx_ne (by decide), tx_ne (by decide), tx_ne (by decide), tx_ne (by decide), tx_ne (by decide)⟩)))
  by_cases q3 : op = [110, 111, 116]
  · subst q3
    exact .inr (.inr (.inr (.inl (⟨rfl, tx_ne (by decide), tx_ne (by decide), tx_ne (by decide), tx_same _, tx_ne (by decide), tx_ne (by decide), tx_ne (by decide), tx_ne (by decide), tx_ne (by decide), tx_ne (by decide), tx_ne (by decide), tx_ne (by decide), tx_ne (by decide), tx_ne (by decide), tx_ne (by decide), tx_ne (by decide), tx_ne (by decide), tx_ne (by decide), tx_ne (by decide), tx_ne (by decide)⟩))))
  by_cases q4 : op = [110, 101, 103]
  · subst q4
    exact .inr (.inr (.inr (.inr (.inl (⟨rfl, tx_ne (by decide), tx_ne (by decide), tx_ne (by decide), tx_ne (by decide), tx_same _, tx_ne (by decide), tx_ne (by decide), tx_ne (by decide), tx_ne (by decide), tx_ne (by decide), tx_ne (by decide), tx_ne (by decide), tx_ne (by decide), tx_ne (by decide), tx_ne (by decide), tx_ne (by decide), tx_ne (by decide), tx_ne (by decide), tx_ne (by decide), tx_ne (by decide)⟩)))))
  by_cases q5 : op = [108, 101, 110]
  · subst q5
    exact .inr (.inr (.inr (.inr (.inr (.inl (⟨rfl, tx_ne (by decide), tx_ne (by decide), tx_ne (by decide), tx_ne (by decide), tx_ne (by decide), tx_same _, tx_ne (by decide), tx_ne (by decide), tx_ne (by decide), tx_ne (by decide), tx_ne (by decide), tx_ne (by decide), tx_ne (by decide), tx_ne (by decide), tx_ne (by decide), tx_ne (by decide), tx_ne (by decide), tx_ne (by decide), tx_ne (by decide), tx_ne (by decide)⟩))))))
  by_cases q6 : op = [97, 98, 115]
  · subst q6
    exact .inr (.inr (.inr (.inr (.inr (.inr (.inl (⟨rfl, tx_ne (by decide), tx_ne (by decide), tx_ne (by decide), tx_ne (by decide), tx_ne (by decide), tx_ne (by decide), tx_same _, tx_ne (by decide), tx_ne (by decide), tx_ne (by decide), tx_ne (by decide), tx_ne (by decide), tx_ne (by decide), tx_ne (by decide), tx_ne (by decide), tx_ne (by decide), tx_ne (by decide), tx_ne (by decide), tx_ne (by decide), tx_ne (by decide)⟩)))))))
  by_cases q7 : op = [111, 114]
  · subst q7
    exact .inr (.inr (.inr (.inr (.inr (.inr (.inr (.inl (⟨rfl, tx_ne (by decide), tx_ne (by decide), tx_ne (by decide), tx_ne (by decide), tx_ne (by decide), tx_ne (by decide), tx_ne (by decide), tx_same _, tx_ne (by decide), tx_ne (by decide), tx_ne (by decide), tx_ne (by decide), tx_ne (by decide), tx_ne (by decide), tx_ne (by decide), tx_ne (by decide), tx_ne (by decide), tx_ne (by decide), tx_ne (by decide), tx_ne (by decide)⟩))))))))
  by_cases q8 : op = [97, 110, 100]
  · subst q8
    exact .inr (.inr (.inr (.inr (.inr (.inr (.inr (.inr (.inl (⟨rfl, tx_ne (by decide), tx_ne (by decide), tx_ne (by decide), tx_ne (by decide), tx_ne (by decide), tx_ne (by decide), tx_ne (by decide), tx_ne (by decide), tx_same _, tx_ne (by decide), tx_ne (by decide), tx_ne (by decide), tx_ne (by decide), tx_ne (by decide), tx_ne (by decide), tx_ne (by decide), tx_ne (by decide), tx_ne (by decide), tx_ne (by decide), tx_ne (by decide)⟩)))))))))
  by_cases q9 : op = [104, 97, 115]
  · subst q9
    exact .inr (.inr (.inr (.inr (.inr (.inr (.inr (.inr (.inr (.inl (⟨rfl, tx_ne (by decide), tx_ne (by decide), tx_ne (by decide), tx_ne (by decide), tx_ne (by decide), tx_ne (by decide), tx_ne (by decide), tx_ne (by decide), tx_ne (by decide), tx_same _, tx_ne (by decide), tx_ne (by decide), tx_ne (by decide), tx_ne (by decide), tx_ne (by decide), tx_ne (by decide), tx_ne (by decide), tx_ne (by decide), tx_ne (by decide), tx_ne (by decide)⟩))))))))))
  by_cases q10 : op = [61]
  · subst q10
    exact .inr (.inr (.inr (.inr (.inr (.inr (.inr (.inr (.inr (.inr (.inl (⟨rfl, tx_ne (by decide), tx_ne (by decide), tx_ne (by decide), tx_ne (by decide), tx_ne (by decide), tx_ne (by decide), tx_ne (by decide), tx_ne (by decide), tx_ne (by decide), tx_ne (by decide), tx_same _, tx_ne (by decide), tx_ne (by decide), tx_ne (by decide), tx_ne (by decide), tx_ne (by decide), tx_ne (by decide), tx_ne (by decide), tx_ne (by decide), tx_ne (by decide)⟩)))))))))))
  by_cases q11 : op = [33, 61]
  · subst q11
    exact .inr (.inr (.inr (.inr (.inr (.inr (.inr (.inr (.inr (.inr (.inr (.inl (⟨rfl, tx_ne (by decide), tx_ne (by decide), tx_ne (by decide), tx_ne (by decide), tx_ne (by decide), tx_ne (by decide), tx_ne (by decide), tx_ne (by decide), tx_ne (by decide), tx_ne (by decide), tx_ne (by decide), tx_same _, tx_ne (by decide), tx_ne (by decide), tx_ne (by decide), tx_ne (by decide), tx_ne (by decide), tx_ne (by decide), tx_ne (by decide), tx_ne (by decide)⟩))))))))))))
  by_cases q12 : op = [60]
  · subst q12
    exact .inr (.inr (.inr (.inr (.inr (.inr (.inr (.inr (.inr (.inr (.inr (.inr (.inl (⟨rfl, tx_ne (by decide), tx_ne (by decide), tx_ne (by decide), tx_ne (by decide), tx_ne (by decide), tx_ne (by decide), tx_ne (by decide), tx_ne (by decide), tx_ne (by decide), tx_ne (by decide), tx_ne (by decide), tx_ne (by decide), tx_same _, tx_ne (by decide), tx_ne (by decide), tx_ne (by decide), tx_ne (by decide), tx_ne (by decide), tx_ne (by decide), tx_ne (by decide)⟩)))))))))))))
  by_cases q13 : op = [60, 61]
  · subst q13
    exact .inr (.inr (.inr (.inr (.inr (.inr (.inr (.inr (.inr (.inr (.inr (.inr (.inr (.inl (⟨rfl, tx_ne (by decide), tx_ne (by decide), tx_ne (by decide), tx_ne (by decide), tx_ne (by decide), tx_ne (by decide), tx_ne (by decide), tx_ne (by decide), tx_ne (by decide), tx_ne (by decide), tx_ne (by decide), tx_ne (by decide), tx_ne (by decide), tx_same _, tx_ne (by decide), tx_ne (by decide), tx_ne (by decide), tx_ne (by decide), tx_ne (by decide), tx_ne (by decide)⟩))))))))))))))
  by_cases q14 : op = [62]
  · subst q14
    exact .inr (.inr (.inr (.inr (.inr (.inr (.inr (.inr (.inr (.inr (.inr (.inr (.inr (.inr (.inl (⟨rfl, tx_ne (by decide), tx_ne (by decide), tx_ne (by decide), tx_ne (by decide), tx_ne (by decide), tx_ne (by decide), tx_ne (by decide), tx_ne (by decide), tx_ne (by decide), tx_ne (by decide), tx_ne (by decide), tx_ne (by decide), tx_ne (by decide), tx_ne (by decide), tx_same _, tx_ne (by decide), tx_ne (by decide), tx_ne (by decide), tx_ne (by decide), tx_ne (by decide)⟩)))))))))))))))
  by_cases q15 : op = [62, 61]
  · subst q15
    exact .inr (.inr (.inr (.inr (.inr (.inr (.inr (.inr (.inr (.inr (.inr (.inr (.inr (.inr (.inr (.inl (⟨rfl, tx_ne (by decide), tx_ne (by decide), tx_ne (by decide), tx_ne (by decide), tx_ne (by decide), tx_ne (by decide), tx_ne (by decide), tx_ne (by decide), tx_ne (by decide), tx_ne (by decide), tx_ne (by decide), tx_ne (by decide), tx_ne (by decide), tx_ne (by decide), tx_ne (by decide), tx_same _, tx_ne (by decide), tx_ne (by decide), tx_ne (by decide), tx_ne (by decide)⟩))))))))))))))))
  by_cases q16 : op = [43]
  · subst q16
    exact .inr (.inr (.inr (.inr (.inr (.inr (.inr (.inr (.inr (.inr (.inr (.inr (.inr (.inr (.inr (.inr (.inl (⟨rfl, tx_ne (by decide), tx_ne (by decide), tx_ne (by decide), tx_ne (by decide), tx_ne (by decide), tx_ne (by decide), tx_ne (by decide), tx_ne (by decide), tx_ne (by decide), tx_ne (by decide), tx_ne (by decide), tx_ne (by decide), tx_ne (by decide), tx_ne (by decide), tx_ne (by decide), tx_ne (by decide), tx_same _, tx_ne (by decide), tx_ne (by decide), tx_ne (by decide)⟩)))))))))))))))))
  by_cases q17 : op = [45]
  · subst q17
    exact .inr (.inr (.inr (.inr (.inr (.inr (.inr (.inr (.inr (.inr (.inr (.inr (.inr (.inr (.inr (.inr (.inr (.inl (⟨rfl, tx_ne (by decide), tx_ne (by decide), tx_ne (by decide), tx_ne (by decide), tx_ne (by decide), tx_ne (by decide), tx_ne (by decide), tx_ne (by decide), tx_ne (by decide), tx_ne (by decide), tx_ne (by decide), tx_ne (by decide), tx_ne (by decide), tx_ne (by decide), tx_ne (by decide), tx_ne (by decide), tx_ne (by decide), tx_same _, tx_ne (by decide), tx_ne (by decide)⟩))))))))))))))))))
  by_cases q18 : op = [42]
  · subst q18
    exact .inr (.inr (.inr (.inr (.inr (.inr (.inr (.inr (.inr (.inr (.inr (.inr (.inr (.inr (.inr (.inr (.inr (.inr (.inl (⟨rfl, tx_ne (by decide), tx_ne (by decide), tx_ne (by decide), tx_ne (by decide), tx_ne (by decide), tx_ne (by decide), tx_ne (by decide), tx_ne (by decide), tx_ne (by decide), tx_ne (by decide), tx_ne (by decide), tx_ne (by decide), tx_ne (by decide), tx_ne (by decide), tx_ne (by decide), tx_ne (by decide), tx_ne (by decide), tx_ne (by decide), tx_same _, tx_ne (by decide)⟩)))))))))))))))))))
  by_cases q19 : op = [47]
  · subst q19
    exact .inr (.inr (.inr (.inr (.inr (.inr (.inr (.inr (.inr (.inr (.inr (.inr (.inr (.inr (.inr (.inr (.inr (.inr (.inr (.inl (⟨rfl, tx_ne (by decide), tx_ne (by decide), tx_ne (by decide), tx_ne (by decide), tx_ne (by decide), tx_ne (by decide), tx_ne (by decide), tx_ne (by decide), tx_ne (by decide), tx_ne (by decide), tx_ne (by decide), tx_ne (by decide), tx_ne (by decide), tx_ne (by decide), tx_ne (by decide), tx_ne (by decide), tx_ne (by decide), tx_ne (by decide), tx_ne (by decide), tx_same _⟩))))))))))))))))))))
  exact .inr (.inr (.inr (.inr (.inr (.inr (.inr (.inr (.inr (.inr (.inr (.inr (.inr (.inr (.inr (.inr (.inr (.inr (.inr (.inr (⟨⟨q0, q1, q2, q3, q4, q5, q6, q7, q8, q9, q10, q11, q12, q13, q14, q15, q16, q17, q18, q19⟩, tx_ne q0, tx_ne q1, tx_ne q2, tx_ne q3, tx_ne q4, tx_ne q5, tx_ne q6, tx_ne q7, tx_ne q8, tx_ne q9, tx_ne q10, tx_ne q11, tx_ne q12, tx_ne q13, tx_ne q14, tx_ne q15, tx_ne q16, tx_ne q17, tx_ne q18, tx_ne q19⟩))))))))))))))))))))
end Go.Proofs.YtdomglkcfecnnaaGreat
