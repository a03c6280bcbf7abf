/-
  No cell of these rows narrows 'for every input' (looked for: loops, veiled, ifaces, maps, wideKeys, modest, calm, conditions, laid).
  DERIVED. THE GIVEN ROWS OF THIS SEAT. 3 by the template 'for every input the law returns true; each argument reads behind the call as it read before'; 0 by the template 'total and deterministic' (their statements: YtpcbamcelpcigaaGreatTotals.lean).
  GIVEN WITH THE SEED: the statements are not yours to turn. If you find one false, say at which input.
  Laid BY PROGRAM, IN A SANDBOX (cutbox-rows.mjs): the forced cells as the released guide's own fill.sh prints them over the translation 1b21490959af4a0b… (all of the seat's roots in one cut). By AI agents, Wed Nov 11 2026. No macro, syntax, notation, axiom, sorry.
-/
import Derived.Test.YtpcbamcelpcigaaGreatChecked
import GoSem.Claim
import GoSem.ClaimJoined
import GoSem.ClaimMapViews
import Derived.JoinedTies
import Derived.KernelRfl
namespace Go.Proofs.YtpcbamcelpcigaaGreat
/- THE CELL 'sum', in the pinned program and in every row, IS THE sha256 OF THE DUMP (.gsa) THAT YtpcbamcelpcigaaGreatProg.lean LOADS. Nothing in Lean hashes anything: it is a label: what it is worth is what the hold of that sum in a sandbox is worth. -/
noncomputable def Tryz.pinned : Pinned := { name := "ytpcbamcelpcigaagreat", sum := "1b21490959af4a0b015f7952d70c2c87454a3bbc6a6b8289c2a92095f6f2ca7f", checked := Tryz.checked }
namespace Rows
def none {H : Type} : Left H := { results := [], args := [] }

/-- 'placardlaw21.DescChecks': WHATEVER THE INPUT: true; the input reads as it did. -/
def descChecksSpec : ChangeSpec := { name := "descChecks", fn := fun _ => fun
  | [d1, d2] => { results := [.lit (.bool true)], args := [d1, d2] }
  | _ => none }
def descChecksRow : OpenClaim := { program := "ytpcbamcelpcigaagreat", sum := "1b21490959af4a0b015f7952d70c2c87454a3bbc6a6b8289c2a92095f6f2ca7f", func := "placard/placardlaw21.DescChecks", spec := "descChecks", inPlace := ["internal/abi.NoEscape", "internal/bytealg.MakeNoZero", "math.Float64bits", "internal/bytealg.IndexByteString"], unfollowed := true, recurses := true, apart := false }
def DescChecksSaid : Prop := descChecksRow.holds Tryz.pinned (OpenSpec.ofChange descChecksSpec)

/-- ITS FALSE NEIGHBOUR: 'it returns false'. Refute it at one input. -/
def descChecksWrong : ChangeSpec := { name := "descChecks", fn := fun _ => fun
  | [d1, d2] => { results := [.lit (.bool false)], args := [d1, d2] }
  | _ => none }
def DescChecksWrongFalsely : Prop := descChecksRow.holds Tryz.pinned (OpenSpec.ofChange descChecksWrong)

/-- 'placardlaw21.DescFields': WHATEVER THE INPUT: true; the input reads as it did. -/
def descFieldsSpec : ChangeSpec := { name := "descFields", fn := fun _ => fun
  | [d1, d2, d3, d4] => { results := [.lit (.bool true)], args := [d1, d2, d3, d4] }
  | _ => none }
def descFieldsRow : OpenClaim := { program := "ytpcbamcelpcigaagreat", sum := "1b21490959af4a0b015f7952d70c2c87454a3bbc6a6b8289c2a92095f6f2ca7f", func := "placard/placardlaw21.DescFields", spec := "descFields", inPlace := ["internal/abi.NoEscape", "internal/bytealg.MakeNoZero", "math.Float64bits", "internal/bytealg.IndexByteString"], unfollowed := true, recurses := true, apart := false }
def DescFieldsSaid : Prop := descFieldsRow.holds Tryz.pinned (OpenSpec.ofChange descFieldsSpec)

/-- ITS FALSE NEIGHBOUR: 'it returns false'. Refute it at one input. -/
def descFieldsWrong : ChangeSpec := { name := "descFields", fn := fun _ => fun
  | [d1, d2, d3, d4] => { results := [.lit (.bool false)], args := [d1, d2, d3, d4] }
  | _ => none }
def DescFieldsWrongFalsely : Prop := descFieldsRow.holds Tryz.pinned (OpenSpec.ofChange descFieldsWrong)

/-- 'placardlaw21.DescSlides': WHATEVER THE INPUT: true; the input reads as it did. -/
def descSlidesSpec : ChangeSpec := { name := "descSlides", fn := fun _ => fun
  | [d1, d2, d3] => { results := [.lit (.bool true)], args := [d1, d2, d3] }
  | _ => none }
def descSlidesRow : OpenClaim := { program := "ytpcbamcelpcigaagreat", sum := "1b21490959af4a0b015f7952d70c2c87454a3bbc6a6b8289c2a92095f6f2ca7f", func := "placard/placardlaw21.DescSlides", spec := "descSlides", inPlace := ["math.Float64bits", "internal/abi.NoEscape", "internal/bytealg.MakeNoZero", "internal/bytealg.IndexByteString"], unfollowed := true, recurses := true, apart := false }
def DescSlidesSaid : Prop := descSlidesRow.holds Tryz.pinned (OpenSpec.ofChange descSlidesSpec)

/-- ITS FALSE NEIGHBOUR: 'it returns false'. Refute it at one input. -/
def descSlidesWrong : ChangeSpec := { name := "descSlides", fn := fun _ => fun
  | [d1, d2, d3] => { results := [.lit (.bool false)], args := [d1, d2, d3] }
  | _ => none }
def DescSlidesWrongFalsely : Prop := descSlidesRow.holds Tryz.pinned (OpenSpec.ofChange descSlidesWrong)

/- THE SECOND FORM. 'bulk': how many values and letters a reading holds, each counted each time it is reached (what is shared counts as often as it is met; a slice's spare places count too). A statement '..UptoSaid' is the law's where the arguments, and the package variables that the reading takes, are together of bulk at most 1048576: NARROWER than '..Said'. Prove '..Said' where nothing that the law and all that it calls make is longer than what came in: it says more and counts as full. Else prove '..UptoSaid'. A law counts once. -/
mutual
def uptoBulk {H : Type} : DataW H → Nat
  | .lit (.string bytes) => bytes.length + 1
  | .lit _ => 1
  | .nil => 1
  | .ptr d => uptoBulk d + 1
  | .slice elems spare => uptoBulkAll elems + uptoBulkAll spare + 1
  | .agg parts => uptoBulkAll parts + 1
  | .iface _ d => uptoBulk d + 1
  | .map entries => uptoBulkEntries entries + 1
  | .held _ => 1
def uptoBulkAll {H : Type} : List (DataW H) → Nat
  | [] => 0
  | d :: r => uptoBulk d + uptoBulkAll r
def uptoBulkEntries {H : Type} : List (Lit × DataW H) → Nat
  | [] => 0
  | x :: r => uptoBulkEntry x + uptoBulkEntries r
def uptoBulkEntry {H : Type} : Lit × DataW H → Nat
  | (.string bytes, d) => bytes.length + uptoBulk d + 1
  | (_, d) => uptoBulk d + 1
 end
def uptoSmall : (H : Type) → List (DataW H) → Bool := fun _ ds => decide (uptoBulkAll ds ≤ 1048576)
def OpenSpec.upto (s : _root_.Go.ChangeSpec) : _root_.Go.OpenSpec := { _root_.Go.OpenSpec.ofChange s with cond := some uptoSmall }

/-- 'placardlaw21.DescChecks', WHERE WHAT IT READS IS OF BULK AT MOST 1048576: true; the input reads as it did. -/
def descChecksUptoRow : OpenClaim := { program := "ytpcbamcelpcigaagreat", sum := "1b21490959af4a0b015f7952d70c2c87454a3bbc6a6b8289c2a92095f6f2ca7f", func := "placard/placardlaw21.DescChecks", spec := "descChecks", inPlace := ["internal/abi.NoEscape", "internal/bytealg.MakeNoZero", "math.Float64bits", "internal/bytealg.IndexByteString"], unfollowed := true, recurses := true, apart := false, narrowed := true }
def DescChecksUptoSaid : Prop := descChecksUptoRow.holds Tryz.pinned (OpenSpec.upto descChecksSpec)

/-- 'placardlaw21.DescFields', WHERE WHAT IT READS IS OF BULK AT MOST 1048576: true; the input reads as it did. -/
def descFieldsUptoRow : OpenClaim := { program := "ytpcbamcelpcigaagreat", sum := "1b21490959af4a0b015f7952d70c2c87454a3bbc6a6b8289c2a92095f6f2ca7f", func := "placard/placardlaw21.DescFields", spec := "descFields", inPlace := ["internal/abi.NoEscape", "internal/bytealg.MakeNoZero", "math.Float64bits", "internal/bytealg.IndexByteString"], unfollowed := true, recurses := true, apart := false, narrowed := true }
def DescFieldsUptoSaid : Prop := descFieldsUptoRow.holds Tryz.pinned (OpenSpec.upto descFieldsSpec)

/-- 'placardlaw21.DescSlides', WHERE WHAT IT READS IS OF BULK AT MOST 1048576: true; the input reads as it did. -/
def descSlidesUptoRow : OpenClaim := { program := "ytpcbamcelpcigaagreat", sum := "1b21490959af4a0b015f7952d70c2c87454a3bbc6a6b8289c2a92095f6f2ca7f", func := "placard/placardlaw21.DescSlides", spec := "descSlides", inPlace := ["math.Float64bits", "internal/abi.NoEscape", "internal/bytealg.MakeNoZero", "internal/bytealg.IndexByteString"], unfollowed := true, recurses := true, apart := false, narrowed := true }
def DescSlidesUptoSaid : Prop := descSlidesUptoRow.holds Tryz.pinned (OpenSpec.upto descSlidesSpec)

end Rows
end Go.Proofs.YtpcbamcelpcigaaGreat
