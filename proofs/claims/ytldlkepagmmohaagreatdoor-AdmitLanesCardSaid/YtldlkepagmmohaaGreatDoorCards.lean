/-
  DERIVED. GIVEN WITH THE SEED: THE CARDS: each row of YtldlkepagmmohaaGreatDoorRows.lean that lists a variable, with what it lists TIED to the program's text (the seventh form; the later family's looks); each row that meets fmt, with fmt's text TOLD by the authors' own Lean function (tested against real Go, not proved from fmt's source: count such statements apart). THE CARD IS WHAT COUNTS. Prove the row's statement (the work); the ties are given (YtldlkepagmmohaaGreatDoorTie.lean); close each card by the builder's one call (the guide's Derived/Test/ToyasCard.lean, 'card_holds'). Laid BY PROGRAM, IN A SANDBOX (cutbox-door.mjs). By AI agents, Wed Nov 11 2026. No macro, syntax, notation, axiom, sorry.
-/
import Derived.Test.YtldlkepagmmohaaGreatDoorRows
import GoSem.ClaimSeven
namespace Go.Proofs.YtldlkepagmmohaaGreatDoor
namespace Rows

/-- THE TIED CARD OF 'paddocklaw26.AdmitLanes'. -/
def admitLanesCard : Claim7 := { stood := { row := admitLanesRow, standIns := [], harness := (true, "28c5969df75085ab0358b916b1e57dc109d58e159eb7a4977fadafc2fb1f68d9"), looks := true }, kinds := [], alts := [], laidByText := true, laidKinds := [.data, .data, .widerDeep, .widerDeep, .data, .data, .data, .data, .data, .data, .sentinel, .sentinel, .pinned, .pinned, .pinned], laidTests := true, laidLooks := .later }
def AdmitLanesCardSaid : Prop := Claim7.holds Tryz.pinned (.plain (OpenSpec.ofChange admitLanesSpec)) admitLanesCard

/-- THE SECOND FORM's CARD OF 'paddocklaw26.AdmitLanes'. -/
def admitLanesUptoCard : Claim7 := { stood := { row := admitLanesUptoRow, standIns := [], harness := (true, "28c5969df75085ab0358b916b1e57dc109d58e159eb7a4977fadafc2fb1f68d9"), looks := true }, kinds := [], alts := [], laidByText := true, laidKinds := [.data, .data, .widerDeep, .widerDeep, .data, .data, .data, .data, .data, .data, .sentinel, .sentinel, .pinned, .pinned, .pinned], laidTests := true, laidLooks := .later }
def AdmitLanesUptoCardSaid : Prop := Claim7.holds Tryz.pinned (.plain (OpenSpec.upto admitLanesSpec)) admitLanesUptoCard
end Rows
end Go.Proofs.YtldlkepagmmohaaGreatDoor
