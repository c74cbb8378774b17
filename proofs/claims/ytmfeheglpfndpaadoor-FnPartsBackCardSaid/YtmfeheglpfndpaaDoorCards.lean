/-
  DERIVED. GIVEN WITH THE SEED: THE CARDS: each row of YtmfeheglpfndpaaDoorRows.lean that lists a variable, with what it lists TIED to the program's text (the seventh form; the later family's looks); each row that meets fmt, with fmt's text TOLD by the authors' own Lean function (tested against real Go, not proved from fmt's source: count such statements apart). THE CARD IS WHAT COUNTS. Prove the row's statement (the work); the ties are given (YtmfeheglpfndpaaDoorTie.lean); close each card by the builder's one call (the guide's Derived/Test/ToyasCard.lean, 'card_holds'). Laid BY PROGRAM, IN A SANDBOX (cutbox-door.mjs). By AI agents, Wed Nov 11 2026. No macro, syntax, notation, axiom, sorry.
-/
import Derived.Test.YtmfeheglpfndpaaDoorRows
import GoSem.ClaimSeven
namespace Go.Proofs.YtmfeheglpfndpaaDoor
namespace Rows

/-- THE TIED CARD OF 'laws.FnPartsBack'. -/
def fnPartsBackCard : Claim7 := { stood := { row := fnPartsBackRow, standIns := [], harness := (true, "5e61df3253e4401797049253760978ff3ea1a6e49d65184ca9d0de3ef72e609a"), looks := false }, kinds := [], alts := [], laidByText := true, laidKinds := [.data, .pinned], laidTests := true, laidLooks := .later }
def FnPartsBackCardSaid : Prop := Claim7.holds Tryd.pinned (.plain (OpenSpec.ofChange fnPartsBackSpec)) fnPartsBackCard

/-- THE TIED CARD OF 'laws.FnExactParts'. -/
def fnExactPartsCard : Claim7 := { stood := { row := fnExactPartsRow, standIns := [], harness := (true, "5e61df3253e4401797049253760978ff3ea1a6e49d65184ca9d0de3ef72e609a"), looks := false }, kinds := [], alts := [], laidByText := true, laidKinds := [.data, .pinned], laidTests := true, laidLooks := .later }
def FnExactPartsCardSaid : Prop := Claim7.holds Tryd.pinned (.plain (OpenSpec.ofChange fnExactPartsSpec)) fnExactPartsCard

/-- THE SECOND FORM's CARD OF 'laws.FnPartsBack'. -/
def fnPartsBackUptoCard : Claim7 := { stood := { row := fnPartsBackUptoRow, standIns := [], harness := (true, "5e61df3253e4401797049253760978ff3ea1a6e49d65184ca9d0de3ef72e609a"), looks := false }, kinds := [], alts := [], laidByText := true, laidKinds := [.data, .pinned], laidTests := true, laidLooks := .later }
def FnPartsBackUptoCardSaid : Prop := Claim7.holds Tryd.pinned (.plain (OpenSpec.upto fnPartsBackSpec)) fnPartsBackUptoCard

/-- THE SECOND FORM's CARD OF 'laws.FnExactParts'. -/
def fnExactPartsUptoCard : Claim7 := { stood := { row := fnExactPartsUptoRow, standIns := [], harness := (true, "5e61df3253e4401797049253760978ff3ea1a6e49d65184ca9d0de3ef72e609a"), looks := false }, kinds := [], alts := [], laidByText := true, laidKinds := [.data, .pinned], laidTests := true, laidLooks := .later }
def FnExactPartsUptoCardSaid : Prop := Claim7.holds Tryd.pinned (.plain (OpenSpec.upto fnExactPartsSpec)) fnExactPartsUptoCard
end Rows
end Go.Proofs.YtmfeheglpfndpaaDoor
