/-
  No cell of these rows narrows 'for every input' (looked for: loops, veiled, ifaces, maps, wideKeys, modest, calm, conditions, laid).
  DERIVED. THE GIVEN ROWS OF THIS SEAT. 3 by the template 'for every input the law returns true; each argument reads behind the call as it read before'; 0 by the template 'total and deterministic' (their statements: YtcbdmaffcjdnbaaTotals.lean).
  GIVEN WITH THE SEED: the statements are not yours to turn. If you find one false, say at which input.
  Laid BY PROGRAM, IN A SANDBOX (cutbox-rows.mjs): the forced cells as the released guide's own fill.sh prints them over the translation 84c834d178d8af5a… (all of the seat's roots in one cut). By AI agents, Wed Nov 11 2026. No macro, syntax, notation, axiom, sorry.
-/
import Derived.Test.YtcbdmaffcjdnbaaChecked
import GoSem.Claim
import GoSem.ClaimJoined
import GoSem.ClaimMapViews
import Derived.JoinedTies
import Derived.KernelRfl
namespace Go.Proofs.Ytcbdmaffcjdnbaa
/- THE CELL 'sum', in the pinned program and in every row, IS THE sha256 OF THE DUMP (.gsa) THAT YtcbdmaffcjdnbaaProg.lean LOADS. Nothing in Lean hashes anything: it is a label: what it is worth is what the hold of that sum in a sandbox is worth. -/
noncomputable def Try.pinned : Pinned := { name := "ytcbdmaffcjdnbaa", sum := "84c834d178d8af5a2a604dde589454690885b311d93799f3e952b8186a637c1b", checked := Try.checked }
namespace Rows
def none {H : Type} : Left H := { results := [], args := [] }

/-- 'placardlaw33.TallyFrames': WHATEVER THE INPUT: true; the input reads as it did. -/
def tallyFramesSpec : ChangeSpec := { name := "tallyFrames", fn := fun _ => fun
  | [d1, d2, d3, d4] => { results := [.lit (.bool true)], args := [d1, d2, d3, d4] }
  | _ => none }
def tallyFramesRow : OpenClaim := { program := "ytcbdmaffcjdnbaa", sum := "84c834d178d8af5a2a604dde589454690885b311d93799f3e952b8186a637c1b", func := "placard/placardlaw33.TallyFrames", spec := "tallyFrames", apart := false }
def TallyFramesSaid : Prop := tallyFramesRow.holds Try.pinned (OpenSpec.ofChange tallyFramesSpec)

/-- ITS FALSE NEIGHBOUR: 'it returns false'. Refute it at one input. -/
def tallyFramesWrong : ChangeSpec := { name := "tallyFrames", fn := fun _ => fun
  | [d1, d2, d3, d4] => { results := [.lit (.bool false)], args := [d1, d2, d3, d4] }
  | _ => none }
def TallyFramesWrongFalsely : Prop := tallyFramesRow.holds Try.pinned (OpenSpec.ofChange tallyFramesWrong)

/-- 'placardlaw33.TallyNobody': WHATEVER THE INPUT: true; the input reads as it did. -/
def tallyNobodySpec : ChangeSpec := { name := "tallyNobody", fn := fun _ => fun
  | [d1, d2] => { results := [.lit (.bool true)], args := [d1, d2] }
  | _ => none }
def tallyNobodyRow : OpenClaim := { program := "ytcbdmaffcjdnbaa", sum := "84c834d178d8af5a2a604dde589454690885b311d93799f3e952b8186a637c1b", func := "placard/placardlaw33.TallyNobody", spec := "tallyNobody", unfollowed := true, recurses := true, apart := false }
def TallyNobodySaid : Prop := tallyNobodyRow.holds Try.pinned (OpenSpec.ofChange tallyNobodySpec)

/-- ITS FALSE NEIGHBOUR: 'it returns false'. Refute it at one input. -/
def tallyNobodyWrong : ChangeSpec := { name := "tallyNobody", fn := fun _ => fun
  | [d1, d2] => { results := [.lit (.bool false)], args := [d1, d2] }
  | _ => none }
def TallyNobodyWrongFalsely : Prop := tallyNobodyRow.holds Try.pinned (OpenSpec.ofChange tallyNobodyWrong)

/-- 'placardlaw33.TallyRuns': WHATEVER THE INPUT: true; the input reads as it did. -/
def tallyRunsSpec : ChangeSpec := { name := "tallyRuns", fn := fun _ => fun
  | [d1, d2, d3] => { results := [.lit (.bool true)], args := [d1, d2, d3] }
  | _ => none }
def tallyRunsRow : OpenClaim := { program := "ytcbdmaffcjdnbaa", sum := "84c834d178d8af5a2a604dde589454690885b311d93799f3e952b8186a637c1b", func := "placard/placardlaw33.TallyRuns", spec := "tallyRuns", unfollowed := true, recurses := true, apart := false }
def TallyRunsSaid : Prop := tallyRunsRow.holds Try.pinned (OpenSpec.ofChange tallyRunsSpec)

/-- ITS FALSE NEIGHBOUR: 'it returns false'. Refute it at one input. -/
def tallyRunsWrong : ChangeSpec := { name := "tallyRuns", fn := fun _ => fun
  | [d1, d2, d3] => { results := [.lit (.bool false)], args := [d1, d2, d3] }
  | _ => none }
def TallyRunsWrongFalsely : Prop := tallyRunsRow.holds Try.pinned (OpenSpec.ofChange tallyRunsWrong)

/- THE SECOND FORM. 'bulk': how many values and letters a reading holds, each counted each time it is reached (what is shared counts as often as it is met; a slice's spare places count too). A statement '..UptoSaid' is the law's where the arguments, and the package variables that the reading takes, are together of bulk at most 1048576: NARROWER than '..Said'. Prove '..Said' where nothing that the law and all that it calls make is longer than what came in: it says more and counts as full. Else prove '..UptoSaid'. A law counts once. -/
mutual
def uptoBulk {H : Type} : DataW H → Nat
  | .lit (.string bytes) => bytes.length + 1
  | .lit _ => 1
  | .nil => 1
  | .ptr d => uptoBulk d + 1
  | .slice elems spare => uptoBulkAll elems + uptoBulkAll spare + 1
  | .agg parts => uptoBulkAll parts + 1
  | .iface _ d => uptoBulk d + 1
  | .map entries => uptoBulkEntries entries + 1
  | .held _ => 1
def uptoBulkAll {H : Type} : List (DataW H) → Nat
  | [] => 0
  | d :: r => uptoBulk d + uptoBulkAll r
def uptoBulkEntries {H : Type} : List (Lit × DataW H) → Nat
  | [] => 0
  | x :: r => uptoBulkEntry x + uptoBulkEntries r
def uptoBulkEntry {H : Type} : Lit × DataW H → Nat
  | (.string bytes, d) => bytes.length + uptoBulk d + 1
  | (_, d) => uptoBulk d + 1
 end
def uptoSmall : (H : Type) → List (DataW H) → Bool := fun _ ds => decide (uptoBulkAll ds ≤ 1048576)
def OpenSpec.upto (s : _root_.Go.ChangeSpec) : _root_.Go.OpenSpec := { _root_.Go.OpenSpec.ofChange s with cond := some uptoSmall }

/-- 'placardlaw33.TallyFrames', WHERE WHAT IT READS IS OF BULK AT MOST 1048576: true; the input reads as it did. -/
def tallyFramesUptoRow : OpenClaim := { program := "ytcbdmaffcjdnbaa", sum := "84c834d178d8af5a2a604dde589454690885b311d93799f3e952b8186a637c1b", func := "placard/placardlaw33.TallyFrames", spec := "tallyFrames", apart := false, narrowed := true }
def TallyFramesUptoSaid : Prop := tallyFramesUptoRow.holds Try.pinned (OpenSpec.upto tallyFramesSpec)

/-- 'placardlaw33.TallyNobody', WHERE WHAT IT READS IS OF BULK AT MOST 1048576: true; the input reads as it did. -/
def tallyNobodyUptoRow : OpenClaim := { program := "ytcbdmaffcjdnbaa", sum := "84c834d178d8af5a2a604dde589454690885b311d93799f3e952b8186a637c1b", func := "placard/placardlaw33.TallyNobody", spec := "tallyNobody", unfollowed := true, recurses := true, apart := false, narrowed := true }
def TallyNobodyUptoSaid : Prop := tallyNobodyUptoRow.holds Try.pinned (OpenSpec.upto tallyNobodySpec)

/-- 'placardlaw33.TallyRuns', WHERE WHAT IT READS IS OF BULK AT MOST 1048576: true; the input reads as it did. -/
def tallyRunsUptoRow : OpenClaim := { program := "ytcbdmaffcjdnbaa", sum := "84c834d178d8af5a2a604dde589454690885b311d93799f3e952b8186a637c1b", func := "placard/placardlaw33.TallyRuns", spec := "tallyRuns", unfollowed := true, recurses := true, apart := false, narrowed := true }
def TallyRunsUptoSaid : Prop := tallyRunsUptoRow.holds Try.pinned (OpenSpec.upto tallyRunsSpec)

end Rows
end Go.Proofs.Ytcbdmaffcjdnbaa
