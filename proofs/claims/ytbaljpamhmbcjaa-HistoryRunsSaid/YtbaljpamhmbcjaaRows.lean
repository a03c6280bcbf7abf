/-
  No cell of these rows narrows 'for every input' (looked for: loops, veiled, ifaces, maps, wideKeys, modest, calm, conditions, laid).
  DERIVED. THE GIVEN ROWS OF THIS SEAT. 4 by the template 'for every input the law returns true; each argument reads behind the call as it read before'; 0 by the template 'total and deterministic' (their statements: YtbaljpamhmbcjaaTotals.lean).
  GIVEN WITH THE SEED: the statements are not yours to turn. If you find one false, say at which input.
  Laid BY PROGRAM, IN A SANDBOX (cutbox-rows.mjs): the forced cells as the released guide's own fill.sh prints them over the translation 3436214425491e2e… (all of the seat's roots in one cut). By AI agents, Wed Nov 11 2026. No macro, syntax, notation, axiom, sorry.
-/
import Derived.Test.YtbaljpamhmbcjaaChecked
import GoSem.Claim
import GoSem.ClaimJoined
import GoSem.ClaimMapViews
import Derived.JoinedTies
import Derived.KernelRfl
namespace Go.Proofs.Ytbaljpamhmbcjaa
/- THE CELL 'sum', in the pinned program and in every row, IS THE sha256 OF THE DUMP (.gsa) THAT YtbaljpamhmbcjaaProg.lean LOADS. Nothing in Lean hashes anything: it is a label: what it is worth is what the hold of that sum in a sandbox is worth. -/
noncomputable def Try.pinned : Pinned := { name := "ytbaljpamhmbcjaa", sum := "3436214425491e2ed4f65e60523874f8ebaea6df494bce40121acc9d83727188", checked := Try.checked }
namespace Rows
def none {H : Type} : Left H := { results := [], args := [] }

/-- 'placardlaw14.HistoryWalks': WHATEVER THE INPUT: true; the input reads as it did. -/
def historyWalksSpec : ChangeSpec := { name := "historyWalks", fn := fun _ => fun
  | [d1, d2, d3] => { results := [.lit (.bool true)], args := [d1, d2, d3] }
  | _ => none }
def historyWalksRow : OpenClaim := { program := "ytbaljpamhmbcjaa", sum := "3436214425491e2ed4f65e60523874f8ebaea6df494bce40121acc9d83727188", func := "placard/placardlaw14.HistoryWalks", spec := "historyWalks", inPlace := ["internal/abi.NoEscape", "internal/bytealg.MakeNoZero"], unfollowed := true, recurses := true, apart := false }
def HistoryWalksSaid : Prop := historyWalksRow.holds Try.pinned (OpenSpec.ofChange historyWalksSpec)

/-- ITS FALSE NEIGHBOUR: 'it returns false'. Refute it at one input. -/
def historyWalksWrong : ChangeSpec := { name := "historyWalks", fn := fun _ => fun
  | [d1, d2, d3] => { results := [.lit (.bool false)], args := [d1, d2, d3] }
  | _ => none }
def HistoryWalksWrongFalsely : Prop := historyWalksRow.holds Try.pinned (OpenSpec.ofChange historyWalksWrong)

/-- 'placardlaw14.HistoryRuns': WHATEVER THE INPUT: true; the input reads as it did. -/
def historyRunsSpec : ChangeSpec := { name := "historyRuns", fn := fun _ => fun
  | [d1, d2, d3, d4] => { results := [.lit (.bool true)], args := [d1, d2, d3, d4] }
  | _ => none }
def historyRunsRow : OpenClaim := { program := "ytbaljpamhmbcjaa", sum := "3436214425491e2ed4f65e60523874f8ebaea6df494bce40121acc9d83727188", func := "placard/placardlaw14.HistoryRuns", spec := "historyRuns", inPlace := ["internal/abi.NoEscape", "internal/bytealg.MakeNoZero"], unfollowed := true, recurses := true, apart := false }
def HistoryRunsSaid : Prop := historyRunsRow.holds Try.pinned (OpenSpec.ofChange historyRunsSpec)

/-- ITS FALSE NEIGHBOUR: 'it returns false'. Refute it at one input. -/
def historyRunsWrong : ChangeSpec := { name := "historyRuns", fn := fun _ => fun
  | [d1, d2, d3, d4] => { results := [.lit (.bool false)], args := [d1, d2, d3, d4] }
  | _ => none }
def HistoryRunsWrongFalsely : Prop := historyRunsRow.holds Try.pinned (OpenSpec.ofChange historyRunsWrong)

/-- 'placardlaw14.HistoryFinds': WHATEVER THE INPUT: true; the input reads as it did. -/
def historyFindsSpec : ChangeSpec := { name := "historyFinds", fn := fun _ => fun
  | [d1, d2, d3] => { results := [.lit (.bool true)], args := [d1, d2, d3] }
  | _ => none }
def historyFindsRow : OpenClaim := { program := "ytbaljpamhmbcjaa", sum := "3436214425491e2ed4f65e60523874f8ebaea6df494bce40121acc9d83727188", func := "placard/placardlaw14.HistoryFinds", spec := "historyFinds", inPlace := ["internal/abi.NoEscape", "internal/bytealg.MakeNoZero", "internal/bytealg.IndexByteString", "internal/bytealg.IndexString"], unfollowed := true, recurses := true, named := ["internal/bytealg.MaxLen"], apart := false }
def HistoryFindsSaid : Prop := historyFindsRow.holds Try.pinned (OpenSpec.ofChange historyFindsSpec)

/-- ITS FALSE NEIGHBOUR: 'it returns false'. Refute it at one input. -/
def historyFindsWrong : ChangeSpec := { name := "historyFinds", fn := fun _ => fun
  | [d1, d2, d3] => { results := [.lit (.bool false)], args := [d1, d2, d3] }
  | _ => none }
def HistoryFindsWrongFalsely : Prop := historyFindsRow.holds Try.pinned (OpenSpec.ofChange historyFindsWrong)

/-- 'placardlaw14.HistoryNobody': WHATEVER THE INPUT: true; the input reads as it did. -/
def historyNobodySpec : ChangeSpec := { name := "historyNobody", fn := fun _ => fun
  | [d1, d2] => { results := [.lit (.bool true)], args := [d1, d2] }
  | _ => none }
def historyNobodyRow : OpenClaim := { program := "ytbaljpamhmbcjaa", sum := "3436214425491e2ed4f65e60523874f8ebaea6df494bce40121acc9d83727188", func := "placard/placardlaw14.HistoryNobody", spec := "historyNobody", inPlace := ["internal/bytealg.IndexByteString", "internal/bytealg.IndexString", "internal/abi.NoEscape", "internal/bytealg.MakeNoZero"], unfollowed := true, recurses := true, named := ["internal/bytealg.MaxLen"], apart := false }
def HistoryNobodySaid : Prop := historyNobodyRow.holds Try.pinned (OpenSpec.ofChange historyNobodySpec)

/-- ITS FALSE NEIGHBOUR: 'it returns false'. Refute it at one input. -/
def historyNobodyWrong : ChangeSpec := { name := "historyNobody", fn := fun _ => fun
  | [d1, d2] => { results := [.lit (.bool false)], args := [d1, d2] }
  | _ => none }
def HistoryNobodyWrongFalsely : Prop := historyNobodyRow.holds Try.pinned (OpenSpec.ofChange historyNobodyWrong)

/- THE SECOND FORM. 'bulk': how many values and letters a reading holds, each counted each time it is reached (what is shared counts as often as it is met; a slice's spare places count too). A statement '..UptoSaid' is the law's where the arguments, and the package variables that the reading takes, are together of bulk at most 1048576: NARROWER than '..Said'. Prove '..Said' where nothing that the law and all that it calls make is longer than what came in: it says more and counts as full. Else prove '..UptoSaid'. A law counts once. -/
mutual
def uptoBulk {H : Type} : DataW H → Nat
  | .lit (.string bytes) => bytes.length + 1
  | .lit _ => 1
  | .nil => 1
  | .ptr d => uptoBulk d + 1
  | .slice elems spare => uptoBulkAll elems + uptoBulkAll spare + 1
  | .agg parts => uptoBulkAll parts + 1
  | .iface _ d => uptoBulk d + 1
  | .map entries => uptoBulkEntries entries + 1
  | .held _ => 1
def uptoBulkAll {H : Type} : List (DataW H) → Nat
  | [] => 0
  | d :: r => uptoBulk d + uptoBulkAll r
def uptoBulkEntries {H : Type} : List (Lit × DataW H) → Nat
  | [] => 0
  | x :: r => uptoBulkEntry x + uptoBulkEntries r
def uptoBulkEntry {H : Type} : Lit × DataW H → Nat
  | (.string bytes, d) => bytes.length + uptoBulk d + 1
  | (_, d) => uptoBulk d + 1
 end
def uptoSmall : (H : Type) → List (DataW H) → Bool := fun _ ds => decide (uptoBulkAll ds ≤ 1048576)
def OpenSpec.upto (s : _root_.Go.ChangeSpec) : _root_.Go.OpenSpec := { _root_.Go.OpenSpec.ofChange s with cond := some uptoSmall }

/-- 'placardlaw14.HistoryWalks', WHERE WHAT IT READS IS OF BULK AT MOST 1048576: true; the input reads as it did. -/
def historyWalksUptoRow : OpenClaim := { program := "ytbaljpamhmbcjaa", sum := "3436214425491e2ed4f65e60523874f8ebaea6df494bce40121acc9d83727188", func := "placard/placardlaw14.HistoryWalks", spec := "historyWalks", inPlace := ["internal/abi.NoEscape", "internal/bytealg.MakeNoZero"], unfollowed := true, recurses := true, apart := false, narrowed := true }
def HistoryWalksUptoSaid : Prop := historyWalksUptoRow.holds Try.pinned (OpenSpec.upto historyWalksSpec)

/-- 'placardlaw14.HistoryRuns', WHERE WHAT IT READS IS OF BULK AT MOST 1048576: true; the input reads as it did. -/
def historyRunsUptoRow : OpenClaim := { program := "ytbaljpamhmbcjaa", sum := "3436214425491e2ed4f65e60523874f8ebaea6df494bce40121acc9d83727188", func := "placard/placardlaw14.HistoryRuns", spec := "historyRuns", inPlace := ["internal/abi.NoEscape", "internal/bytealg.MakeNoZero"], unfollowed := true, recurses := true, apart := false, narrowed := true }
def HistoryRunsUptoSaid : Prop := historyRunsUptoRow.holds Try.pinned (OpenSpec.upto historyRunsSpec)

/-- 'placardlaw14.HistoryFinds', WHERE WHAT IT READS IS OF BULK AT MOST 1048576: true; the input reads as it did. -/
def historyFindsUptoRow : OpenClaim := { program := "ytbaljpamhmbcjaa", sum := "3436214425491e2ed4f65e60523874f8ebaea6df494bce40121acc9d83727188", func := "placard/placardlaw14.HistoryFinds", spec := "historyFinds", inPlace := ["internal/abi.NoEscape", "internal/bytealg.MakeNoZero", "internal/bytealg.IndexByteString", "internal/bytealg.IndexString"], unfollowed := true, recurses := true, named := ["internal/bytealg.MaxLen"], apart := false, narrowed := true }
def HistoryFindsUptoSaid : Prop := historyFindsUptoRow.holds Try.pinned (OpenSpec.upto historyFindsSpec)

/-- 'placardlaw14.HistoryNobody', WHERE WHAT IT READS IS OF BULK AT MOST 1048576: true; the input reads as it did. -/
def historyNobodyUptoRow : OpenClaim := { program := "ytbaljpamhmbcjaa", sum := "3436214425491e2ed4f65e60523874f8ebaea6df494bce40121acc9d83727188", func := "placard/placardlaw14.HistoryNobody", spec := "historyNobody", inPlace := ["internal/bytealg.IndexByteString", "internal/bytealg.IndexString", "internal/abi.NoEscape", "internal/bytealg.MakeNoZero"], unfollowed := true, recurses := true, named := ["internal/bytealg.MaxLen"], apart := false, narrowed := true }
def HistoryNobodyUptoSaid : Prop := historyNobodyUptoRow.holds Try.pinned (OpenSpec.upto historyNobodySpec)

end Rows
end Go.Proofs.Ytbaljpamhmbcjaa
