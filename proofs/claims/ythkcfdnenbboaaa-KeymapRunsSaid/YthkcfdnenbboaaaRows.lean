/-
  No cell of these rows narrows 'for every input' (looked for: loops, veiled, ifaces, maps, wideKeys, modest, calm, conditions, laid).
  DERIVED. THE GIVEN ROWS OF THIS SEAT. 4 by the template 'for every input the law returns true; each argument reads behind the call as it read before'; 0 by the template 'total and deterministic' (their statements: YthkcfdnenbboaaaTotals.lean).
  GIVEN WITH THE SEED: the statements are not yours to turn. If you find one false, say at which input.
  Laid BY PROGRAM, IN A SANDBOX (cutbox-rows.mjs): the forced cells as the released guide's own fill.sh prints them over the translation bbac82f609153428… (all of the seat's roots in one cut). By AI agents, Wed Nov 11 2026. No macro, syntax, notation, axiom, sorry.
-/
import Derived.Test.YthkcfdnenbboaaaChecked
import GoSem.Claim
import GoSem.ClaimJoined
import GoSem.ClaimMapViews
import Derived.JoinedTies
import Derived.KernelRfl
namespace Go.Proofs.Ythkcfdnenbboaaa
/- THE CELL 'sum', in the pinned program and in every row, IS THE sha256 OF THE DUMP (.gsa) THAT YthkcfdnenbboaaaProg.lean LOADS. Nothing in Lean hashes anything: it is a label: what it is worth is what the hold of that sum in a sandbox is worth. -/
noncomputable def Try.pinned : Pinned := { name := "ythkcfdnenbboaaa", sum := "bbac82f6091534281539f13191c837ed487e8460ac14e821db3a7357c8959ea2", checked := Try.checked }
namespace Rows
def none {H : Type} : Left H := { results := [], args := [] }

/-- 'placardlaw08.KeymapMany': WHATEVER THE INPUT: true; the input reads as it did. -/
def keymapManySpec : ChangeSpec := { name := "keymapMany", fn := fun _ => fun
  | [d] => { results := [.lit (.bool true)], args := [d] }
  | _ => none }
def keymapManyRow : OpenClaim := { program := "ythkcfdnenbboaaa", sum := "bbac82f6091534281539f13191c837ed487e8460ac14e821db3a7357c8959ea2", func := "placard/placardlaw08.KeymapMany", spec := "keymapMany", inPlace := ["internal/abi.NoEscape"], apart := false }
def KeymapManySaid : Prop := keymapManyRow.holds Try.pinned (OpenSpec.ofChange keymapManySpec)

/-- ITS FALSE NEIGHBOUR: 'it returns false'. Refute it at one input. -/
def keymapManyWrong : ChangeSpec := { name := "keymapMany", fn := fun _ => fun
  | [d] => { results := [.lit (.bool false)], args := [d] }
  | _ => none }
def KeymapManyWrongFalsely : Prop := keymapManyRow.holds Try.pinned (OpenSpec.ofChange keymapManyWrong)

/-- 'placardlaw08.KeymapNames': WHATEVER THE INPUT: true; the input reads as it did. -/
def keymapNamesSpec : ChangeSpec := { name := "keymapNames", fn := fun _ => fun
  | [d1, d2, d3] => { results := [.lit (.bool true)], args := [d1, d2, d3] }
  | _ => none }
def keymapNamesRow : OpenClaim := { program := "ythkcfdnenbboaaa", sum := "bbac82f6091534281539f13191c837ed487e8460ac14e821db3a7357c8959ea2", func := "placard/placardlaw08.KeymapNames", spec := "keymapNames", inPlace := ["internal/abi.NoEscape"], apart := false }
def KeymapNamesSaid : Prop := keymapNamesRow.holds Try.pinned (OpenSpec.ofChange keymapNamesSpec)

/-- ITS FALSE NEIGHBOUR: 'it returns false'. Refute it at one input. -/
def keymapNamesWrong : ChangeSpec := { name := "keymapNames", fn := fun _ => fun
  | [d1, d2, d3] => { results := [.lit (.bool false)], args := [d1, d2, d3] }
  | _ => none }
def KeymapNamesWrongFalsely : Prop := keymapNamesRow.holds Try.pinned (OpenSpec.ofChange keymapNamesWrong)

/-- 'placardlaw08.KeymapRuns': WHATEVER THE INPUT: true; the input reads as it did. -/
def keymapRunsSpec : ChangeSpec := { name := "keymapRuns", fn := fun _ => fun
  | [d1, d2, d3, d4, d5, d6] => { results := [.lit (.bool true)], args := [d1, d2, d3, d4, d5, d6] }
  | _ => none }
def keymapRunsRow : OpenClaim := { program := "ythkcfdnenbboaaa", sum := "bbac82f6091534281539f13191c837ed487e8460ac14e821db3a7357c8959ea2", func := "placard/placardlaw08.KeymapRuns", spec := "keymapRuns", inPlace := ["internal/abi.NoEscape"], unfollowed := true, recurses := true, apart := false }
def KeymapRunsSaid : Prop := keymapRunsRow.holds Try.pinned (OpenSpec.ofChange keymapRunsSpec)

/-- ITS FALSE NEIGHBOUR: 'it returns false'. Refute it at one input. -/
def keymapRunsWrong : ChangeSpec := { name := "keymapRuns", fn := fun _ => fun
  | [d1, d2, d3, d4, d5, d6] => { results := [.lit (.bool false)], args := [d1, d2, d3, d4, d5, d6] }
  | _ => none }
def KeymapRunsWrongFalsely : Prop := keymapRunsRow.holds Try.pinned (OpenSpec.ofChange keymapRunsWrong)

/-- 'placardlaw08.KeymapNobody': WHATEVER THE INPUT: true; the input reads as it did. -/
def keymapNobodySpec : ChangeSpec := { name := "keymapNobody", fn := fun _ => fun
  | [d] => { results := [.lit (.bool true)], args := [d] }
  | _ => none }
def keymapNobodyRow : OpenClaim := { program := "ythkcfdnenbboaaa", sum := "bbac82f6091534281539f13191c837ed487e8460ac14e821db3a7357c8959ea2", func := "placard/placardlaw08.KeymapNobody", spec := "keymapNobody", inPlace := ["internal/abi.NoEscape"], unfollowed := true, recurses := true, apart := false }
def KeymapNobodySaid : Prop := keymapNobodyRow.holds Try.pinned (OpenSpec.ofChange keymapNobodySpec)

/-- ITS FALSE NEIGHBOUR: 'it returns false'. Refute it at one input. -/
def keymapNobodyWrong : ChangeSpec := { name := "keymapNobody", fn := fun _ => fun
  | [d] => { results := [.lit (.bool false)], args := [d] }
  | _ => none }
def KeymapNobodyWrongFalsely : Prop := keymapNobodyRow.holds Try.pinned (OpenSpec.ofChange keymapNobodyWrong)

/- THE SECOND FORM. 'bulk': how many values and letters a reading holds, each counted each time it is reached (what is shared counts as often as it is met; a slice's spare places count too). A statement '..UptoSaid' is the law's where the arguments, and the package variables that the reading takes, are together of bulk at most 1048576: NARROWER than '..Said'. Prove '..Said' where nothing that the law and all that it calls make is longer than what came in: it says more and counts as full. Else prove '..UptoSaid'. A law counts once. -/
mutual
def uptoBulk {H : Type} : DataW H → Nat
  | .lit (.string bytes) => bytes.length + 1
  | .lit _ => 1
  | .nil => 1
  | .ptr d => uptoBulk d + 1
  | .slice elems spare => uptoBulkAll elems + uptoBulkAll spare + 1
  | .agg parts => uptoBulkAll parts + 1
  | .iface _ d => uptoBulk d + 1
  | .map entries => uptoBulkEntries entries + 1
  | .held _ => 1
def uptoBulkAll {H : Type} : List (DataW H) → Nat
  | [] => 0
  | d :: r => uptoBulk d + uptoBulkAll r
def uptoBulkEntries {H : Type} : List (Lit × DataW H) → Nat
  | [] => 0
  | x :: r => uptoBulkEntry x + uptoBulkEntries r
def uptoBulkEntry {H : Type} : Lit × DataW H → Nat
  | (.string bytes, d) => bytes.length + uptoBulk d + 1
  | (_, d) => uptoBulk d + 1
 end
def uptoSmall : (H : Type) → List (DataW H) → Bool := fun _ ds => decide (uptoBulkAll ds ≤ 1048576)
def OpenSpec.upto (s : _root_.Go.ChangeSpec) : _root_.Go.OpenSpec := { _root_.Go.OpenSpec.ofChange s with cond := some uptoSmall }

/-- 'placardlaw08.KeymapMany', WHERE WHAT IT READS IS OF BULK AT MOST 1048576: true; the input reads as it did. -/
def keymapManyUptoRow : OpenClaim := { program := "ythkcfdnenbboaaa", sum := "bbac82f6091534281539f13191c837ed487e8460ac14e821db3a7357c8959ea2", func := "placard/placardlaw08.KeymapMany", spec := "keymapMany", inPlace := ["internal/abi.NoEscape"], apart := false, narrowed := true }
def KeymapManyUptoSaid : Prop := keymapManyUptoRow.holds Try.pinned (OpenSpec.upto keymapManySpec)

/-- 'placardlaw08.KeymapNames', WHERE WHAT IT READS IS OF BULK AT MOST 1048576: true; the input reads as it did. -/
def keymapNamesUptoRow : OpenClaim := { program := "ythkcfdnenbboaaa", sum := "bbac82f6091534281539f13191c837ed487e8460ac14e821db3a7357c8959ea2", func := "placard/placardlaw08.KeymapNames", spec := "keymapNames", inPlace := ["internal/abi.NoEscape"], apart := false, narrowed := true }
def KeymapNamesUptoSaid : Prop := keymapNamesUptoRow.holds Try.pinned (OpenSpec.upto keymapNamesSpec)

/-- 'placardlaw08.KeymapRuns', WHERE WHAT IT READS IS OF BULK AT MOST 1048576: true; the input reads as it did. -/
def keymapRunsUptoRow : OpenClaim := { program := "ythkcfdnenbboaaa", sum := "bbac82f6091534281539f13191c837ed487e8460ac14e821db3a7357c8959ea2", func := "placard/placardlaw08.KeymapRuns", spec := "keymapRuns", inPlace := ["internal/abi.NoEscape"], unfollowed := true, recurses := true, apart := false, narrowed := true }
def KeymapRunsUptoSaid : Prop := keymapRunsUptoRow.holds Try.pinned (OpenSpec.upto keymapRunsSpec)

/-- 'placardlaw08.KeymapNobody', WHERE WHAT IT READS IS OF BULK AT MOST 1048576: true; the input reads as it did. -/
def keymapNobodyUptoRow : OpenClaim := { program := "ythkcfdnenbboaaa", sum := "bbac82f6091534281539f13191c837ed487e8460ac14e821db3a7357c8959ea2", func := "placard/placardlaw08.KeymapNobody", spec := "keymapNobody", inPlace := ["internal/abi.NoEscape"], unfollowed := true, recurses := true, apart := false, narrowed := true }
def KeymapNobodyUptoSaid : Prop := keymapNobodyUptoRow.holds Try.pinned (OpenSpec.upto keymapNobodySpec)

end Rows
end Go.Proofs.Ythkcfdnenbboaaa
