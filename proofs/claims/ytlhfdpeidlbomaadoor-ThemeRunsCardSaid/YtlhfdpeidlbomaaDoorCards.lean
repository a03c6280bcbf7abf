/-
  DERIVED. GIVEN WITH THE SEED: THE CARDS: each row of YtlhfdpeidlbomaaDoorRows.lean that lists a variable, with what it lists TIED to the program's text (the seventh form; the later family's looks); each row that meets fmt, with fmt's text TOLD by the authors' own Lean function (tested against real Go, not proved from fmt's source: count such statements apart). THE CARD IS WHAT COUNTS. Prove the row's statement (the work); the ties are given (YtlhfdpeidlbomaaDoorTie.lean); close each card by the builder's one call (the guide's Derived/Test/ToyasCard.lean, 'card_holds'). Laid BY PROGRAM, IN A SANDBOX (cutbox-door.mjs). By AI agents, Wed Nov 11 2026. No macro, syntax, notation, axiom, sorry.
-/
import Derived.Test.YtlhfdpeidlbomaaDoorRows
import GoSem.ClaimSeven
namespace Go.Proofs.YtlhfdpeidlbomaaDoor
namespace Rows

/-- THE TIED CARD OF 'placardlaw31.ThemeWords'. -/
def themeWordsCard : Claim7 := { stood := { row := themeWordsRow, standIns := [], harness := (true, "5ed26ca8ffcce9236078adc8ba0e24876ff2d1e2dda035742fceb586817ebb0f"), looks := false }, kinds := [], alts := [], laidByText := true, laidKinds := [.data, .pinned], laidTests := true, laidLooks := .later }
def ThemeWordsCardSaid : Prop := Claim7.holds Tryd.pinned (.plain (OpenSpec.ofChange themeWordsSpec)) themeWordsCard

/-- THE TIED CARD OF 'placardlaw31.ThemeTexts'. -/
def themeTextsCard : Claim7 := { stood := { row := themeTextsRow, standIns := [], harness := (true, "5ed26ca8ffcce9236078adc8ba0e24876ff2d1e2dda035742fceb586817ebb0f"), looks := false }, kinds := [], alts := [], laidByText := true, laidKinds := [.data, .pinned], laidTests := true, laidLooks := .later }
def ThemeTextsCardSaid : Prop := Claim7.holds Tryd.pinned (.plain (OpenSpec.ofChange themeTextsSpec)) themeTextsCard

/-- THE TIED CARD OF 'placardlaw31.ThemeRuns'. -/
def themeRunsCard : Claim7 := { stood := { row := themeRunsRow, standIns := [], harness := (true, "5ed26ca8ffcce9236078adc8ba0e24876ff2d1e2dda035742fceb586817ebb0f"), looks := false }, kinds := [], alts := [], laidByText := true, laidKinds := [.data, .pinned], laidTests := true, laidLooks := .later }
def ThemeRunsCardSaid : Prop := Claim7.holds Tryd.pinned (.plain (OpenSpec.ofChange themeRunsSpec)) themeRunsCard

/-- THE SECOND FORM's CARD OF 'placardlaw31.ThemeWords'. -/
def themeWordsUptoCard : Claim7 := { stood := { row := themeWordsUptoRow, standIns := [], harness := (true, "5ed26ca8ffcce9236078adc8ba0e24876ff2d1e2dda035742fceb586817ebb0f"), looks := false }, kinds := [], alts := [], laidByText := true, laidKinds := [.data, .pinned], laidTests := true, laidLooks := .later }
def ThemeWordsUptoCardSaid : Prop := Claim7.holds Tryd.pinned (.plain (OpenSpec.upto themeWordsSpec)) themeWordsUptoCard

/-- THE SECOND FORM's CARD OF 'placardlaw31.ThemeTexts'. -/
def themeTextsUptoCard : Claim7 := { stood := { row := themeTextsUptoRow, standIns := [], harness := (true, "5ed26ca8ffcce9236078adc8ba0e24876ff2d1e2dda035742fceb586817ebb0f"), looks := false }, kinds := [], alts := [], laidByText := true, laidKinds := [.data, .pinned], laidTests := true, laidLooks := .later }
def ThemeTextsUptoCardSaid : Prop := Claim7.holds Tryd.pinned (.plain (OpenSpec.upto themeTextsSpec)) themeTextsUptoCard

/-- THE SECOND FORM's CARD OF 'placardlaw31.ThemeRuns'. -/
def themeRunsUptoCard : Claim7 := { stood := { row := themeRunsUptoRow, standIns := [], harness := (true, "5ed26ca8ffcce9236078adc8ba0e24876ff2d1e2dda035742fceb586817ebb0f"), looks := false }, kinds := [], alts := [], laidByText := true, laidKinds := [.data, .pinned], laidTests := true, laidLooks := .later }
def ThemeRunsUptoCardSaid : Prop := Claim7.holds Tryd.pinned (.plain (OpenSpec.upto themeRunsSpec)) themeRunsUptoCard
end Rows
end Go.Proofs.YtlhfdpeidlbomaaDoor
