/-
  No cell of these rows narrows 'for every input' (looked for: loops, veiled, ifaces, maps, wideKeys, modest, calm, conditions, laid).
  DERIVED. THE GIVEN ROWS OF THIS SEAT. 4 by the template 'for every input the law returns true; each argument reads behind the call as it read before'; 0 by the template 'total and deterministic' (their statements: YtdehjofmangmbaaGreatTotals.lean).
  GIVEN WITH THE SEED: the statements are not yours to turn. If you find one false, say at which input.
  Laid BY PROGRAM, IN A SANDBOX (cutbox-rows.mjs): the forced cells as the released guide's own fill.sh prints them over the translation a517fa63a2dd9097… (all of the seat's roots in one cut). By AI agents, Wed Nov 11 2026. No macro, syntax, notation, axiom, sorry.
-/
import Derived.Test.YtdehjofmangmbaaGreatChecked
import GoSem.Claim
import GoSem.ClaimJoined
import GoSem.ClaimMapViews
import Derived.JoinedTies
import Derived.KernelRfl
namespace Go.Proofs.YtdehjofmangmbaaGreat
/- THE CELL 'sum', in the pinned program and in every row, IS THE sha256 OF THE DUMP (.gsa) THAT YtdehjofmangmbaaGreatProg.lean LOADS. Nothing in Lean hashes anything: it is a label: what it is worth is what the hold of that sum in a sandbox is worth. -/
noncomputable def Tryz.pinned : Pinned := { name := "ytdehjofmangmbaagreat", sum := "a517fa63a2dd90975485bd7c77b6e1a41dc489bad64575c4512dafad0cc7b72a", checked := Tryz.checked }
namespace Rows
def none {H : Type} : Left H := { results := [], args := [] }

/-- 'placardlaw22.FilterRanks': WHATEVER THE INPUT: true; the input reads as it did. -/
def filterRanksSpec : ChangeSpec := { name := "filterRanks", fn := fun _ => fun
  | [d1, d2] => { results := [.lit (.bool true)], args := [d1, d2] }
  | _ => none }
def filterRanksRow : OpenClaim := { program := "ytdehjofmangmbaagreat", sum := "a517fa63a2dd90975485bd7c77b6e1a41dc489bad64575c4512dafad0cc7b72a", func := "placard/placardlaw22.FilterRanks", spec := "filterRanks", inPlace := ["internal/abi.NoEscape", "internal/bytealg.MakeNoZero"], unfollowed := true, recurses := true, apart := false }
def FilterRanksSaid : Prop := filterRanksRow.holds Tryz.pinned (OpenSpec.ofChange filterRanksSpec)

/-- ITS FALSE NEIGHBOUR: 'it returns false'. Refute it at one input. -/
def filterRanksWrong : ChangeSpec := { name := "filterRanks", fn := fun _ => fun
  | [d1, d2] => { results := [.lit (.bool false)], args := [d1, d2] }
  | _ => none }
def FilterRanksWrongFalsely : Prop := filterRanksRow.holds Tryz.pinned (OpenSpec.ofChange filterRanksWrong)

/-- 'placardlaw22.FilterCosts': WHATEVER THE INPUT: true; the input reads as it did. -/
def filterCostsSpec : ChangeSpec := { name := "filterCosts", fn := fun _ => fun
  | [d1, d2] => { results := [.lit (.bool true)], args := [d1, d2] }
  | _ => none }
def filterCostsRow : OpenClaim := { program := "ytdehjofmangmbaagreat", sum := "a517fa63a2dd90975485bd7c77b6e1a41dc489bad64575c4512dafad0cc7b72a", func := "placard/placardlaw22.FilterCosts", spec := "filterCosts", inPlace := ["internal/abi.NoEscape", "internal/bytealg.MakeNoZero"], unfollowed := true, recurses := true, apart := false }
def FilterCostsSaid : Prop := filterCostsRow.holds Tryz.pinned (OpenSpec.ofChange filterCostsSpec)

/-- ITS FALSE NEIGHBOUR: 'it returns false'. Refute it at one input. -/
def filterCostsWrong : ChangeSpec := { name := "filterCosts", fn := fun _ => fun
  | [d1, d2] => { results := [.lit (.bool false)], args := [d1, d2] }
  | _ => none }
def FilterCostsWrongFalsely : Prop := filterCostsRow.holds Tryz.pinned (OpenSpec.ofChange filterCostsWrong)

/-- 'placardlaw22.FilterSieves': WHATEVER THE INPUT: true; the input reads as it did. -/
def filterSievesSpec : ChangeSpec := { name := "filterSieves", fn := fun _ => fun
  | [d1, d2, d3] => { results := [.lit (.bool true)], args := [d1, d2, d3] }
  | _ => none }
def filterSievesRow : OpenClaim := { program := "ytdehjofmangmbaagreat", sum := "a517fa63a2dd90975485bd7c77b6e1a41dc489bad64575c4512dafad0cc7b72a", func := "placard/placardlaw22.FilterSieves", spec := "filterSieves", inPlace := ["internal/abi.NoEscape", "internal/bytealg.MakeNoZero"], unfollowed := true, recurses := true, apart := false }
def FilterSievesSaid : Prop := filterSievesRow.holds Tryz.pinned (OpenSpec.ofChange filterSievesSpec)

/-- ITS FALSE NEIGHBOUR: 'it returns false'. Refute it at one input. -/
def filterSievesWrong : ChangeSpec := { name := "filterSieves", fn := fun _ => fun
  | [d1, d2, d3] => { results := [.lit (.bool false)], args := [d1, d2, d3] }
  | _ => none }
def FilterSievesWrongFalsely : Prop := filterSievesRow.holds Tryz.pinned (OpenSpec.ofChange filterSievesWrong)

/-- 'placardlaw22.FilterCommon': WHATEVER THE INPUT: true; the input reads as it did. -/
def filterCommonSpec : ChangeSpec := { name := "filterCommon", fn := fun _ => fun
  | [d] => { results := [.lit (.bool true)], args := [d] }
  | _ => none }
def filterCommonRow : OpenClaim := { program := "ytdehjofmangmbaagreat", sum := "a517fa63a2dd90975485bd7c77b6e1a41dc489bad64575c4512dafad0cc7b72a", func := "placard/placardlaw22.FilterCommon", spec := "filterCommon", inPlace := ["internal/abi.NoEscape", "internal/bytealg.MakeNoZero"], unfollowed := true, recurses := true, apart := false }
def FilterCommonSaid : Prop := filterCommonRow.holds Tryz.pinned (OpenSpec.ofChange filterCommonSpec)

/-- ITS FALSE NEIGHBOUR: 'it returns false'. Refute it at one input. -/
def filterCommonWrong : ChangeSpec := { name := "filterCommon", fn := fun _ => fun
  | [d] => { results := [.lit (.bool false)], args := [d] }
  | _ => none }
def FilterCommonWrongFalsely : Prop := filterCommonRow.holds Tryz.pinned (OpenSpec.ofChange filterCommonWrong)

/- THE SECOND FORM. 'bulk': how many values and letters a reading holds, each counted each time it is reached (what is shared counts as often as it is met; a slice's spare places count too). A statement '..UptoSaid' is the law's where the arguments, and the package variables that the reading takes, are together of bulk at most 1048576: NARROWER than '..Said'. Prove '..Said' where nothing that the law and all that it calls make is longer than what came in: it says more and counts as full. Else prove '..UptoSaid'. A law counts once. -/
mutual
def uptoBulk {H : Type} : DataW H → Nat
  | .lit (.string bytes) => bytes.length + 1
  | .lit _ => 1
  | .nil => 1
  | .ptr d => uptoBulk d + 1
  | .slice elems spare => uptoBulkAll elems + uptoBulkAll spare + 1
  | .agg parts => uptoBulkAll parts + 1
  | .iface _ d => uptoBulk d + 1
  | .map entries => uptoBulkEntries entries + 1
  | .held _ => 1
def uptoBulkAll {H : Type} : List (DataW H) → Nat
  | [] => 0
  | d :: r => uptoBulk d + uptoBulkAll r
def uptoBulkEntries {H : Type} : List (Lit × DataW H) → Nat
  | [] => 0
  | x :: r => uptoBulkEntry x + uptoBulkEntries r
def uptoBulkEntry {H : Type} : Lit × DataW H → Nat
  | (.string bytes, d) => bytes.length + uptoBulk d + 1
  | (_, d) => uptoBulk d + 1
 end
def uptoSmall : (H : Type) → List (DataW H) → Bool := fun _ ds => decide (uptoBulkAll ds ≤ 1048576)
def OpenSpec.upto (s : _root_.Go.ChangeSpec) : _root_.Go.OpenSpec := { _root_.Go.OpenSpec.ofChange s with cond := some uptoSmall }

/-- 'placardlaw22.FilterRanks', WHERE WHAT IT READS IS OF BULK AT MOST 1048576: true; the input reads as it did. -/
def filterRanksUptoRow : OpenClaim := { program := "ytdehjofmangmbaagreat", sum := "a517fa63a2dd90975485bd7c77b6e1a41dc489bad64575c4512dafad0cc7b72a", func := "placard/placardlaw22.FilterRanks", spec := "filterRanks", inPlace := ["internal/abi.NoEscape", "internal/bytealg.MakeNoZero"], unfollowed := true, recurses := true, apart := false, narrowed := true }
def FilterRanksUptoSaid : Prop := filterRanksUptoRow.holds Tryz.pinned (OpenSpec.upto filterRanksSpec)

/-- 'placardlaw22.FilterCosts', WHERE WHAT IT READS IS OF BULK AT MOST 1048576: true; the input reads as it did. -/
def filterCostsUptoRow : OpenClaim := { program := "ytdehjofmangmbaagreat", sum := "a517fa63a2dd90975485bd7c77b6e1a41dc489bad64575c4512dafad0cc7b72a", func := "placard/placardlaw22.FilterCosts", spec := "filterCosts", inPlace := ["internal/abi.NoEscape", "internal/bytealg.MakeNoZero"], unfollowed := true, recurses := true, apart := false, narrowed := true }
def FilterCostsUptoSaid : Prop := filterCostsUptoRow.holds Tryz.pinned (OpenSpec.upto filterCostsSpec)

/-- 'placardlaw22.FilterSieves', WHERE WHAT IT READS IS OF BULK AT MOST 1048576: true; the input reads as it did. -/
def filterSievesUptoRow : OpenClaim := { program := "ytdehjofmangmbaagreat", sum := "a517fa63a2dd90975485bd7c77b6e1a41dc489bad64575c4512dafad0cc7b72a", func := "placard/placardlaw22.FilterSieves", spec := "filterSieves", inPlace := ["internal/abi.NoEscape", "internal/bytealg.MakeNoZero"], unfollowed := true, recurses := true, apart := false, narrowed := true }
def FilterSievesUptoSaid : Prop := filterSievesUptoRow.holds Tryz.pinned (OpenSpec.upto filterSievesSpec)

/-- 'placardlaw22.FilterCommon', WHERE WHAT IT READS IS OF BULK AT MOST 1048576: true; the input reads as it did. -/
def filterCommonUptoRow : OpenClaim := { program := "ytdehjofmangmbaagreat", sum := "a517fa63a2dd90975485bd7c77b6e1a41dc489bad64575c4512dafad0cc7b72a", func := "placard/placardlaw22.FilterCommon", spec := "filterCommon", inPlace := ["internal/abi.NoEscape", "internal/bytealg.MakeNoZero"], unfollowed := true, recurses := true, apart := false, narrowed := true }
def FilterCommonUptoSaid : Prop := filterCommonUptoRow.holds Tryz.pinned (OpenSpec.upto filterCommonSpec)

end Rows
end Go.Proofs.YtdehjofmangmbaaGreat
