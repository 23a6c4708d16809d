/-
  DERIVED. GIVEN WITH THE SEED: THE CARDS: each row of YtppiohmnbffndaaGreatDoorRows.lean that lists a variable, with what it lists TIED to the program's text (the seventh form; the later family's looks); each row that meets fmt, with fmt's text TOLD by the authors' own Lean function (tested against real Go, not proved from fmt's source: count such statements apart). THE CARD IS WHAT COUNTS. Prove the row's statement (the work); the ties are given (YtppiohmnbffndaaGreatDoorTie.lean); close each card by the builder's one call (the guide's Derived/Test/ToyasCard.lean, 'card_holds'). Laid BY PROGRAM, IN A SANDBOX (cutbox-door.mjs). By AI agents, Wed Nov 11 2026. No macro, syntax, notation, axiom, sorry.
-/
import Derived.Test.YtppiohmnbffndaaGreatDoorRows
import GoSem.ClaimSeven
namespace Go.Proofs.YtppiohmnbffndaaGreatDoor
namespace Rows

/-- THE TIED CARD OF 'paddocklaw19.MatchNil'. -/
def matchNilCard : Claim7 := { stood := { row := matchNilRow, standIns := [], harness := (true, "dc2fe1574139d827839fbf04c1f23dd37abc297f75c63e7d9346871b7ab0ceaf"), looks := false }, kinds := [], alts := [], laidByText := true, laidKinds := [.data], laidTests := true, laidLooks := .later }
def MatchNilCardSaid : Prop := Claim7.holds Tryz.pinned (.plain (OpenSpec.ofChange matchNilSpec)) matchNilCard

/-- THE SECOND FORM's CARD OF 'paddocklaw19.MatchNil'. -/
def matchNilUptoCard : Claim7 := { stood := { row := matchNilUptoRow, standIns := [], harness := (true, "dc2fe1574139d827839fbf04c1f23dd37abc297f75c63e7d9346871b7ab0ceaf"), looks := false }, kinds := [], alts := [], laidByText := true, laidKinds := [.data], laidTests := true, laidLooks := .later }
def MatchNilUptoCardSaid : Prop := Claim7.holds Tryz.pinned (.plain (OpenSpec.upto matchNilSpec)) matchNilUptoCard
end Rows
end Go.Proofs.YtppiohmnbffndaaGreatDoor
