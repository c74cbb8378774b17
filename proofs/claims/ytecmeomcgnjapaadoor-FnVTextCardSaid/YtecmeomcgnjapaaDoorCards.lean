/-
  DERIVED. GIVEN WITH THE SEED: THE CARDS: each row of YtecmeomcgnjapaaDoorRows.lean that lists a variable, with what it lists TIED to the program's text (the seventh form; the later family's looks); each row that meets fmt, with fmt's text TOLD by the authors' own Lean function (tested against real Go, not proved from fmt's source: count such statements apart). THE CARD IS WHAT COUNTS. Prove the row's statement (the work); the ties are given (YtecmeomcgnjapaaDoorTie.lean); close each card by the builder's one call (the guide's Derived/Test/ToyasCard.lean, 'card_holds'). Laid BY PROGRAM, IN A SANDBOX (cutbox-door.mjs). By AI agents, Wed Nov 11 2026. No macro, syntax, notation, axiom, sorry.
-/
import Derived.Test.YtecmeomcgnjapaaDoorRows
import GoSem.ClaimSeven
namespace Go.Proofs.YtecmeomcgnjapaaDoor
namespace Rows

/-- THE TIED CARD OF 'laws.FnExactLong'. -/
def fnExactLongCard : Claim7 := { stood := { row := fnExactLongRow, standIns := [], harness := (true, "fd01724216ccc149d3ec825c792e362380c37dd51eef71efccd80824af6b74fb"), looks := true }, kinds := [], alts := [], laidByText := true, laidKinds := [.data, .data, .data], laidTests := true, laidLooks := .later }
def FnExactLongCardSaid : Prop := Claim7.holds Tryd.pinned (.plain (OpenSpec.ofChange fnExactLongSpec)) fnExactLongCard

/-- THE TIED CARD OF 'laws.FnExactDigits'. -/
def fnExactDigitsCard : Claim7 := { stood := { row := fnExactDigitsRow, standIns := [], harness := (true, "fd01724216ccc149d3ec825c792e362380c37dd51eef71efccd80824af6b74fb"), looks := true }, kinds := [], alts := [], laidByText := true, laidKinds := [.data, .data, .data], laidTests := true, laidLooks := .later }
def FnExactDigitsCardSaid : Prop := Claim7.holds Tryd.pinned (.plain (OpenSpec.ofChange fnExactDigitsSpec)) fnExactDigitsCard

/-- THE TIED CARD OF 'laws.FnExactLongOf'. -/
def fnExactLongOfCard : Claim7 := { stood := { row := fnExactLongOfRow, standIns := [], harness := (true, "fd01724216ccc149d3ec825c792e362380c37dd51eef71efccd80824af6b74fb"), looks := true }, kinds := [], alts := [], laidByText := true, laidKinds := [.data, .data, .data, .sentinel, .sentinel], laidTests := true, laidLooks := .later }
def FnExactLongOfCardSaid : Prop := Claim7.holds Tryd.pinned (.plain (OpenSpec.ofChange fnExactLongOfSpec)) fnExactLongOfCard

/-- THE TIED CARD OF 'laws.FnExactNumber'. -/
def fnExactNumberCard : Claim7 := { stood := { row := fnExactNumberRow, standIns := [], harness := (true, "fd01724216ccc149d3ec825c792e362380c37dd51eef71efccd80824af6b74fb"), looks := true }, kinds := [], alts := [], laidByText := true, laidKinds := [.data, .data, .data, .sentinel, .sentinel], laidTests := true, laidLooks := .later }
def FnExactNumberCardSaid : Prop := Claim7.holds Tryd.pinned (.plain (OpenSpec.ofChange fnExactNumberSpec)) fnExactNumberCard

/-- THE TIED CARD OF 'laws.FnDigits'. -/
def fnDigitsCard : Claim7 := { stood := { row := fnDigitsRow, standIns := [], harness := (true, "fd01724216ccc149d3ec825c792e362380c37dd51eef71efccd80824af6b74fb"), looks := true }, kinds := [], alts := [], laidByText := true, laidKinds := [.data, .data, .data, .sentinel, .sentinel], laidTests := true, laidLooks := .later }
def FnDigitsCardSaid : Prop := Claim7.holds Tryd.pinned (.plain (OpenSpec.ofChange fnDigitsSpec)) fnDigitsCard

/-- THE TIED CARD OF 'laws.FnExactViolationText'. -/
def fnExactViolationTextCard : Claim7 := { stood := { row := fnExactViolationTextRow, standIns := [], harness := (true, "fd01724216ccc149d3ec825c792e362380c37dd51eef71efccd80824af6b74fb"), looks := true }, kinds := [], alts := [], laidByText := true, laidKinds := [.data, .data, .data], laidTests := true, laidLooks := .later }
def FnExactViolationTextCardSaid : Prop := Claim7.holds Tryd.pinned (.plain (OpenSpec.ofChange fnExactViolationTextSpec)) fnExactViolationTextCard

/-- THE TIED CARD OF 'laws.FnVText'. -/
def fnVTextCard : Claim7 := { stood := { row := fnVTextRow, standIns := [], harness := (true, "fd01724216ccc149d3ec825c792e362380c37dd51eef71efccd80824af6b74fb"), looks := true }, kinds := [], alts := [], laidByText := true, laidKinds := [.data, .data, .data], laidTests := true, laidLooks := .later }
def FnVTextCardSaid : Prop := Claim7.holds Tryd.pinned (.plain (OpenSpec.ofChange fnVTextSpec)) fnVTextCard

/-- THE SECOND FORM's CARD OF 'laws.FnExactLong'. -/
def fnExactLongUptoCard : Claim7 := { stood := { row := fnExactLongUptoRow, standIns := [], harness := (true, "fd01724216ccc149d3ec825c792e362380c37dd51eef71efccd80824af6b74fb"), looks := true }, kinds := [], alts := [], laidByText := true, laidKinds := [.data, .data, .data], laidTests := true, laidLooks := .later }
def FnExactLongUptoCardSaid : Prop := Claim7.holds Tryd.pinned (.plain (OpenSpec.upto fnExactLongSpec)) fnExactLongUptoCard

/-- THE SECOND FORM's CARD OF 'laws.FnExactDigits'. -/
def fnExactDigitsUptoCard : Claim7 := { stood := { row := fnExactDigitsUptoRow, standIns := [], harness := (true, "fd01724216ccc149d3ec825c792e362380c37dd51eef71efccd80824af6b74fb"), looks := true }, kinds := [], alts := [], laidByText := true, laidKinds := [.data, .data, .data], laidTests := true, laidLooks := .later }
def FnExactDigitsUptoCardSaid : Prop := Claim7.holds Tryd.pinned (.plain (OpenSpec.upto fnExactDigitsSpec)) fnExactDigitsUptoCard

/-- THE SECOND FORM's CARD OF 'laws.FnExactLongOf'. -/
def fnExactLongOfUptoCard : Claim7 := { stood := { row := fnExactLongOfUptoRow, standIns := [], harness := (true, "fd01724216ccc149d3ec825c792e362380c37dd51eef71efccd80824af6b74fb"), looks := true }, kinds := [], alts := [], laidByText := true, laidKinds := [.data, .data, .data, .sentinel, .sentinel], laidTests := true, laidLooks := .later }
def FnExactLongOfUptoCardSaid : Prop := Claim7.holds Tryd.pinned (.plain (OpenSpec.upto fnExactLongOfSpec)) fnExactLongOfUptoCard

/-- THE SECOND FORM's CARD OF 'laws.FnExactNumber'. -/
def fnExactNumberUptoCard : Claim7 := { stood := { row := fnExactNumberUptoRow, standIns := [], harness := (true, "fd01724216ccc149d3ec825c792e362380c37dd51eef71efccd80824af6b74fb"), looks := true }, kinds := [], alts := [], laidByText := true, laidKinds := [.data, .data, .data, .sentinel, .sentinel], laidTests := true, laidLooks := .later }
def FnExactNumberUptoCardSaid : Prop := Claim7.holds Tryd.pinned (.plain (OpenSpec.upto fnExactNumberSpec)) fnExactNumberUptoCard

/-- THE SECOND FORM's CARD OF 'laws.FnDigits'. -/
def fnDigitsUptoCard : Claim7 := { stood := { row := fnDigitsUptoRow, standIns := [], harness := (true, "fd01724216ccc149d3ec825c792e362380c37dd51eef71efccd80824af6b74fb"), looks := true }, kinds := [], alts := [], laidByText := true, laidKinds := [.data, .data, .data, .sentinel, .sentinel], laidTests := true, laidLooks := .later }
def FnDigitsUptoCardSaid : Prop := Claim7.holds Tryd.pinned (.plain (OpenSpec.upto fnDigitsSpec)) fnDigitsUptoCard

/-- THE SECOND FORM's CARD OF 'laws.FnExactViolationText'. -/
def fnExactViolationTextUptoCard : Claim7 := { stood := { row := fnExactViolationTextUptoRow, standIns := [], harness := (true, "fd01724216ccc149d3ec825c792e362380c37dd51eef71efccd80824af6b74fb"), looks := true }, kinds := [], alts := [], laidByText := true, laidKinds := [.data, .data, .data], laidTests := true, laidLooks := .later }
def FnExactViolationTextUptoCardSaid : Prop := Claim7.holds Tryd.pinned (.plain (OpenSpec.upto fnExactViolationTextSpec)) fnExactViolationTextUptoCard

/-- THE SECOND FORM's CARD OF 'laws.FnVText'. -/
def fnVTextUptoCard : Claim7 := { stood := { row := fnVTextUptoRow, standIns := [], harness := (true, "fd01724216ccc149d3ec825c792e362380c37dd51eef71efccd80824af6b74fb"), looks := true }, kinds := [], alts := [], laidByText := true, laidKinds := [.data, .data, .data], laidTests := true, laidLooks := .later }
def FnVTextUptoCardSaid : Prop := Claim7.holds Tryd.pinned (.plain (OpenSpec.upto fnVTextSpec)) fnVTextUptoCard
end Rows
end Go.Proofs.YtecmeomcgnjapaaDoor
