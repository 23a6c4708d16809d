/-
  DERIVED. GIVEN WITH THE SEED: THE CARDS: each row of YtdaindihobfokaaGreatDoorRows.lean that lists a variable, with what it lists TIED to the program's text (the seventh form; the later family's looks); each row that meets fmt, with fmt's text TOLD by the authors' own Lean function (tested against real Go, not proved from fmt's source: count such statements apart). THE CARD IS WHAT COUNTS. Prove the row's statement (the work); the ties are given (YtdaindihobfokaaGreatDoorTie.lean); close each card by the builder's one call (the guide's Derived/Test/ToyasCard.lean, 'card_holds'). Laid BY PROGRAM, IN A SANDBOX (cutbox-door.mjs). By AI agents, Wed Nov 11 2026. No macro, syntax, notation, axiom, sorry.
-/
import Derived.Test.YtdaindihobfokaaGreatDoorRows
import GoSem.ClaimSeven
namespace Go.Proofs.YtdaindihobfokaaGreatDoor
namespace Rows

/-- THE TIED CARD OF 'paddocklaw30.ModelBegins'. -/
def modelBeginsCard : Claim7 := { stood := { row := modelBeginsRow, standIns := [], harness := (true, "115ea9cb7480175a0531ce2a1a3579618a27314a79f51492f7f2cef7cf36739c"), looks := true }, kinds := [], alts := [], laidByText := true, laidKinds := [.data, .data, .widerDeep, .widerDeep, .data, .data, .data, .data, .data, .data, .sentinel, .sentinel, .pinned, .pinned, .pinned], laidTests := true, laidLooks := .later }
def ModelBeginsCardSaid : Prop := Claim7.holds Tryz.pinned (.plain (OpenSpec.ofChange modelBeginsSpec)) modelBeginsCard

/-- THE SECOND FORM's CARD OF 'paddocklaw30.ModelBegins'. -/
def modelBeginsUptoCard : Claim7 := { stood := { row := modelBeginsUptoRow, standIns := [], harness := (true, "115ea9cb7480175a0531ce2a1a3579618a27314a79f51492f7f2cef7cf36739c"), looks := true }, kinds := [], alts := [], laidByText := true, laidKinds := [.data, .data, .widerDeep, .widerDeep, .data, .data, .data, .data, .data, .data, .sentinel, .sentinel, .pinned, .pinned, .pinned], laidTests := true, laidLooks := .later }
def ModelBeginsUptoCardSaid : Prop := Claim7.holds Tryz.pinned (.plain (OpenSpec.upto modelBeginsSpec)) modelBeginsUptoCard
end Rows
end Go.Proofs.YtdaindihobfokaaGreatDoor
