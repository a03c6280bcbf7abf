/- Plain words of package filter: folded texts, clusters, words, how a word stands. No program in sight. -/
import Derived.Test.YtdehjofmangmbaaGreatHD
namespace Go.Proofs.YtdehjofmangmbaaGreat
def lowB (c : UInt8) : UInt8 := if 65 ≤ c.toNat ∧ c.toNat ≤ 90 then c + 32 else c
/-- A text folded. -/
def foldS (l : Bs) : Bs := (flatS l).map lowB
/-- The clusters of a text folded. -/
def clS (l : Bs) : List Bs := cutS (foldS l)
/-- Begins a cluster with a blank? -/
def isBl (c : Bs) : Bool := c.getD 0 0 == 32
def wdR (s : List (List Bs) × Bool) (c : Bs) : List (List Bs) × Bool :=
  if isBl c = true then (s.1, false) else if s.2 = true then (s.1.set (s.1.length - 1) (s.1.getD (s.1.length - 1) [] ++ [c]), true) else (s.1 ++ [[c]], true)
def wdF (cs : List Bs) : List (List Bs) × Bool := cs.foldl wdR ([], false)
/-- A query's words, as clusters. -/
def wds (q : Bs) : List (List Bs) := (wdF (clS q)).1
def ltrB (b : UInt8) : Bool := decide (48 ≤ b.toNat ∧ b.toNat ≤ 57 ∨ 97 ≤ b.toNat ∧ b.toNat ≤ 122 ∨ 128 ≤ b.toNat)
/-- Is a cluster a letter's? -/
def ltr (c : Bs) : Bool := ltrB (c.getD 0 0)
/-- Do clusters stand side by side in others at a place? -/
def isAt (o w : List Bs) (i : Nat) : Bool := decide (i + w.length ≤ o.length ∧ (o.drop i).take w.length = w)
def besS (o w : List Bs) : List Nat := (List.range (o.length + 1 - w.length)).filter (isAt o w)
/-- The places of clusters in order, each as soon as it comes. -/
def grd : Nat → List Bs → List Bs → Nat → List Nat
  | 0, _, _, _ => []
  | _ + 1, _, [], _ => []
  | f + 1, o, c :: r, i => if i < o.length then (if o.getD i [] = c then i :: grd f o r (i + 1) else grd f o (c :: r) (i + 1)) else []
def chnS (o w : List Bs) (i : Nat) : Option (List Nat) :=
  if o.getD i [] = w.getD 0 [] ∧ (grd (o.length + 1) o w i).length = w.length then some (grd (o.length + 1) o w i) else none
structure Fnd where
  rank : Nat
  gaps : Nat
  at_ : List Nat
deriving DecidableEq
def gapN (l : List Nat) : Nat := l.getD (l.length - 1) 0 - l.getD 0 0 + 1 - l.length
def sprR (o w : List Bs) (b : Option Fnd) (i : Nat) : Option Fnd :=
  match chnS o w i with
  | none => b
  | some l => match b with
    | none => some ⟨4, gapN l, l⟩
    | some x => if gapN l < x.gaps then some ⟨4, gapN l, l⟩ else some x
/-- How a word stands with others between. -/
def sprS (o w : List Bs) : Option Fnd := (List.range o.length).foldl (sprR o w) none
def runN (i n : Nat) : List Nat := (List.range n).map (i + ·)
/-- How a word stands in an option. -/
def fndS (o w : List Bs) : Option Fnd :=
  match besS o w with
  | [] => sprS o w
  | p :: r => if p = 0 then some ⟨if w.length = o.length then 0 else 1, 0, runN 0 w.length⟩ else
    match (p :: r).find? (fun i => !ltr (o.getD (i - 1) [])) with
    | some i => some ⟨2, 0, runN i w.length⟩
    | none => some ⟨3, 0, runN p w.length⟩
def kepR (o : List Bs) (a : Option Fnd) (w : List Bs) : Option Fnd :=
  match a with
  | none => none
  | some x => match fndS o w with
    | none => none
    | some f => some ⟨x.rank + f.rank, x.gaps + f.gaps, x.at_ ++ f.at_⟩
/-- How all words of a query stand in an option. -/
def kepS (o : List Bs) (ws : List (List Bs)) : Option Fnd := ws.foldl (kepR o) (some ⟨0, 0, []⟩)
def cosS (opt q : Bs) : Nat × Nat × Bool := match kepS (clS opt) (wds q) with
  | none => (0, 0, false)
  | some f => (f.rank, f.gaps, true)
/-- The marked places. -/
def mksS (opt q : Bs) : List Nat := match kepS (clS opt) (wds q) with
  | none => []
  | some f => (List.range (clS opt).length).filter (fun i => f.at_.contains i)
/-- An option that is kept: its ranks, its gaps, its place. -/
abbrev Plc := Nat × Nat × Nat
def ahd (a b : Plc) : Bool := decide (a.1 < b.1 ∨ a.1 = b.1 ∧ (a.2.1 < b.2.1 ∨ a.2.1 = b.2.1 ∧ a.2.2 < b.2.2))
def plcs (ws : List (List Bs)) (opts : List Bs) : List Plc := (List.range opts.length).filterMap fun i => match kepS (clS (opts.getD i [])) ws with
  | none => none
  | some f => some (f.rank, f.gaps, i)
/-- Put behind all that are not dearer. -/
def insP (l : List Plc) (p : Plc) : List Plc := l.takeWhile (fun a => !decide (a.1 > p.1 ∨ a.1 = p.1 ∧ a.2.1 > p.2.1)) ++ p :: l.dropWhile (fun a => !decide (a.1 > p.1 ∨ a.1 = p.1 ∧ a.2.1 > p.2.1))
def sieP (ws : List (List Bs)) (opts : List Bs) : List Plc := (plcs ws opts).foldl insP []
/-- Which options are kept, in order. -/
def sieS (q : Bs) (opts : List Bs) : List Nat := (sieP (wds q) opts).map (·.2.2)
/-- How many clusters two rows begin with alike. -/
def cpl : List Bs → List Bs → Nat
  | a :: l, b :: m => if a = b then cpl l m + 1 else 0
  | _, _ => 0
def comL : List Bs → List Bs
  | [] => []
  | o :: r => r.foldl (fun l s => l.take (cpl l (clS s))) (clS o)
/-- What all options begin with. -/
def comS (opts : List Bs) : Bs := (comL opts).flatten
end Go.Proofs.YtdehjofmangmbaaGreat
