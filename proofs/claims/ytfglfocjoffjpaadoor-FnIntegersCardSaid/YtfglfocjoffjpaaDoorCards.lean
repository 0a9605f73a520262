/-
  DERIVED. GIVEN WITH THE SEED: THE CARDS: each row of YtfglfocjoffjpaaDoorRows.lean that lists a variable, with what it lists TIED to the program's text (the seventh form; the later family's looks); each row that meets fmt, with fmt's text TOLD by the authors' own Lean function (tested against real Go, not proved from fmt's source: count such statements apart). THE CARD IS WHAT COUNTS. Prove the row's statement (the work); the ties are given (YtfglfocjoffjpaaDoorTie.lean); close each card by the builder's one call (the guide's Derived/Test/ToyasCard.lean, 'card_holds'). Laid BY PROGRAM, IN A SANDBOX (cutbox-door.mjs). By AI agents, Wed Nov 11 2026. No macro, syntax, notation, axiom, sorry.
-/
import Derived.Test.YtfglfocjoffjpaaDoorRows
import GoSem.ClaimSeven
namespace Go.Proofs.YtfglfocjoffjpaaDoor
namespace Rows

/-- THE TIED CARD OF 'laws.FnExactFormatInt'. -/
def fnExactFormatIntCard : Claim7 := { stood := { row := fnExactFormatIntRow, standIns := [], harness := (true, "a4c62d1b536d636a53744d5397a23ffc0380502bace2deef05ddea05cb16d0c4"), looks := false }, kinds := [], alts := [], laidByText := true, laidKinds := [.data, .data, .data], laidTests := true, laidLooks := .later }
def FnExactFormatIntCardSaid : Prop := Claim7.holds Tryd.pinned (.plain (OpenSpec.ofChange fnExactFormatIntSpec)) fnExactFormatIntCard

/-- THE TIED CARD OF 'laws.FnExactPathText'. -/
def fnExactPathTextCard : Claim7 := { stood := { row := fnExactPathTextRow, standIns := [], harness := (true, "a4c62d1b536d636a53744d5397a23ffc0380502bace2deef05ddea05cb16d0c4"), looks := false }, kinds := [], alts := [], laidByText := true, laidKinds := [.data, .data, .data], laidTests := true, laidLooks := .later }
def FnExactPathTextCardSaid : Prop := Claim7.holds Tryd.pinned (.plain (OpenSpec.ofChange fnExactPathTextSpec)) fnExactPathTextCard

/-- THE TIED CARD OF 'laws.FnPaths'. -/
def fnPathsCard : Claim7 := { stood := { row := fnPathsRow, standIns := [], harness := (true, "a4c62d1b536d636a53744d5397a23ffc0380502bace2deef05ddea05cb16d0c4"), looks := false }, kinds := [], alts := [], laidByText := true, laidKinds := [.data, .data, .data], laidTests := true, laidLooks := .later }
def FnPathsCardSaid : Prop := Claim7.holds Tryd.pinned (.plain (OpenSpec.ofChange fnPathsSpec)) fnPathsCard

/-- THE TIED CARD OF 'laws.FnIntegers'. -/
def fnIntegersCard : Claim7 := { stood := { row := fnIntegersRow, standIns := [], harness := (true, "a4c62d1b536d636a53744d5397a23ffc0380502bace2deef05ddea05cb16d0c4"), looks := false }, kinds := [], alts := [], laidByText := true, laidKinds := [.data, .data, .data], laidTests := true, laidLooks := .later }
def FnIntegersCardSaid : Prop := Claim7.holds Tryd.pinned (.plain (OpenSpec.ofChange fnIntegersSpec)) fnIntegersCard

/-- THE SECOND FORM's CARD OF 'laws.FnExactFormatInt'. -/
def fnExactFormatIntUptoCard : Claim7 := { stood := { row := fnExactFormatIntUptoRow, standIns := [], harness := (true, "a4c62d1b536d636a53744d5397a23ffc0380502bace2deef05ddea05cb16d0c4"), looks := false }, kinds := [], alts := [], laidByText := true, laidKinds := [.data, .data, .data], laidTests := true, laidLooks := .later }
def FnExactFormatIntUptoCardSaid : Prop := Claim7.holds Tryd.pinned (.plain (OpenSpec.upto fnExactFormatIntSpec)) fnExactFormatIntUptoCard

/-- THE SECOND FORM's CARD OF 'laws.FnExactPathText'. -/
def fnExactPathTextUptoCard : Claim7 := { stood := { row := fnExactPathTextUptoRow, standIns := [], harness := (true, "a4c62d1b536d636a53744d5397a23ffc0380502bace2deef05ddea05cb16d0c4"), looks := false }, kinds := [], alts := [], laidByText := true, laidKinds := [.data, .data, .data], laidTests := true, laidLooks := .later }
def FnExactPathTextUptoCardSaid : Prop := Claim7.holds Tryd.pinned (.plain (OpenSpec.upto fnExactPathTextSpec)) fnExactPathTextUptoCard

/-- THE SECOND FORM's CARD OF 'laws.FnPaths'. -/
def fnPathsUptoCard : Claim7 := { stood := { row := fnPathsUptoRow, standIns := [], harness := (true, "a4c62d1b536d636a53744d5397a23ffc0380502bace2deef05ddea05cb16d0c4"), looks := false }, kinds := [], alts := [], laidByText := true, laidKinds := [.data, .data, .data], laidTests := true, laidLooks := .later }
def FnPathsUptoCardSaid : Prop := Claim7.holds Tryd.pinned (.plain (OpenSpec.upto fnPathsSpec)) fnPathsUptoCard

/-- THE SECOND FORM's CARD OF 'laws.FnIntegers'. -/
def fnIntegersUptoCard : Claim7 := { stood := { row := fnIntegersUptoRow, standIns := [], harness := (true, "a4c62d1b536d636a53744d5397a23ffc0380502bace2deef05ddea05cb16d0c4"), looks := false }, kinds := [], alts := [], laidByText := true, laidKinds := [.data, .data, .data], laidTests := true, laidLooks := .later }
def FnIntegersUptoCardSaid : Prop := Claim7.holds Tryd.pinned (.plain (OpenSpec.upto fnIntegersSpec)) fnIntegersUptoCard
end Rows
end Go.Proofs.YtfglfocjoffjpaaDoor
