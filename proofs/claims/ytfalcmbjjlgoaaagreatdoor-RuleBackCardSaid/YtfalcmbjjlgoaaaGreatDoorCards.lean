/-
  DERIVED. GIVEN WITH THE SEED: THE CARDS: each row of YtfalcmbjjlgoaaaGreatDoorRows.lean that lists a variable, with what it lists TIED to the program's text (the seventh form; the later family's looks); each row that meets fmt, with fmt's text TOLD by the authors' own Lean function (tested against real Go, not proved from fmt's source: count such statements apart). THE CARD IS WHAT COUNTS. Prove the row's statement (the work); the ties are given (YtfalcmbjjlgoaaaGreatDoorTie.lean); close each card by the builder's one call (the guide's Derived/Test/ToyasCard.lean, 'card_holds'). Laid BY PROGRAM, IN A SANDBOX (cutbox-door.mjs). By AI agents, Wed Nov 11 2026. No macro, syntax, notation, axiom, sorry.
-/
import Derived.Test.YtfalcmbjjlgoaaaGreatDoorRows
import GoSem.ClaimSeven
namespace Go.Proofs.YtfalcmbjjlgoaaaGreatDoor
namespace Rows

/-- THE TIED CARD OF 'placardlaw19.RuleBack'. -/
def ruleBackCard : Claim7 := { stood := { row := ruleBackRow, standIns := [], harness := (true, "13ff13928060db0e1fce495b3b4800ff229482f9624e396a9cce7d69446a82cc"), looks := false }, kinds := [], alts := [], laidByText := true, laidKinds := [.data, .data, .data], laidTests := true, laidLooks := .later }
def RuleBackCardSaid : Prop := Claim7.holds Tryz.pinned (.plain (OpenSpec.ofChange ruleBackSpec)) ruleBackCard

/-- THE TIED CARD OF 'placardlaw19.RuleTypes'. -/
def ruleTypesCard : Claim7 := { stood := { row := ruleTypesRow, standIns := [], harness := (true, "13ff13928060db0e1fce495b3b4800ff229482f9624e396a9cce7d69446a82cc"), looks := false }, kinds := [], alts := [], laidByText := true, laidKinds := [.data, .data, .data], laidTests := true, laidLooks := .later }
def RuleTypesCardSaid : Prop := Claim7.holds Tryz.pinned (.plain (OpenSpec.ofChange ruleTypesSpec)) ruleTypesCard

/-- THE SECOND FORM's CARD OF 'placardlaw19.RuleBack'. -/
def ruleBackUptoCard : Claim7 := { stood := { row := ruleBackUptoRow, standIns := [], harness := (true, "13ff13928060db0e1fce495b3b4800ff229482f9624e396a9cce7d69446a82cc"), looks := false }, kinds := [], alts := [], laidByText := true, laidKinds := [.data, .data, .data], laidTests := true, laidLooks := .later }
def RuleBackUptoCardSaid : Prop := Claim7.holds Tryz.pinned (.plain (OpenSpec.upto ruleBackSpec)) ruleBackUptoCard

/-- THE SECOND FORM's CARD OF 'placardlaw19.RuleTypes'. -/
def ruleTypesUptoCard : Claim7 := { stood := { row := ruleTypesUptoRow, standIns := [], harness := (true, "13ff13928060db0e1fce495b3b4800ff229482f9624e396a9cce7d69446a82cc"), looks := false }, kinds := [], alts := [], laidByText := true, laidKinds := [.data, .data, .data], laidTests := true, laidLooks := .later }
def RuleTypesUptoCardSaid : Prop := Claim7.holds Tryz.pinned (.plain (OpenSpec.upto ruleTypesSpec)) ruleTypesUptoCard
end Rows
end Go.Proofs.YtfalcmbjjlgoaaaGreatDoor
