/-
  DERIVED. GIVEN WITH THE SEED: THE CARDS: each row of YtdhelpbhbhihaaaGreatDoorRows.lean that lists a variable, with what it lists TIED to the program's text (the seventh form; the later family's looks); each row that meets fmt, with fmt's text TOLD by the authors' own Lean function (tested against real Go, not proved from fmt's source: count such statements apart). THE CARD IS WHAT COUNTS. Prove the row's statement (the work); the ties are given (YtdhelpbhbhihaaaGreatDoorTie.lean); close each card by the builder's one call (the guide's Derived/Test/ToyasCard.lean, 'card_holds'). Laid BY PROGRAM, IN A SANDBOX (cutbox-door.mjs). By AI agents, Wed Nov 11 2026. No macro, syntax, notation, axiom, sorry.
-/
import Derived.Test.YtdhelpbhbhihaaaGreatDoorRows
import GoSem.ClaimSeven
namespace Go.Proofs.YtdhelpbhbhihaaaGreatDoor
namespace Rows

/-- THE TIED CARD OF 'paddocklaw02.RealAll'. -/
def realAllCard : Claim7 := { stood := { row := realAllRow, standIns := [], harness := (true, "3b59e004aebed98f0d4e7e95f07a6d23ce227531fd4d19510bd0af957b6e87c0"), looks := true }, kinds := [], alts := [], laidByText := true, laidKinds := [.data, .data, .widerDeep, .widerDeep, .data, .data, .data, .data, .data, .data, .sentinel, .sentinel, .pinned, .pinned, .pinned], laidTests := true, laidLooks := .later }
def RealAllCardSaid : Prop := Claim7.holds Tryz.pinned (.plain (OpenSpec.ofChange realAllSpec)) realAllCard

/-- THE TIED CARD OF 'paddocklaw02.RealRounds'. -/
def realRoundsCard : Claim7 := { stood := { row := realRoundsRow, standIns := [], harness := (true, "3b59e004aebed98f0d4e7e95f07a6d23ce227531fd4d19510bd0af957b6e87c0"), looks := true }, kinds := [], alts := [], laidByText := true, laidKinds := [.data, .data, .widerDeep, .widerDeep, .data, .data, .data, .data, .data, .data, .sentinel, .sentinel, .pinned, .pinned, .pinned], laidTests := true, laidLooks := .later }
def RealRoundsCardSaid : Prop := Claim7.holds Tryz.pinned (.plain (OpenSpec.ofChange realRoundsSpec)) realRoundsCard

/-- THE TIED CARD OF 'paddocklaw02.RealSums'. -/
def realSumsCard : Claim7 := { stood := { row := realSumsRow, standIns := [], harness := (true, "3b59e004aebed98f0d4e7e95f07a6d23ce227531fd4d19510bd0af957b6e87c0"), looks := true }, kinds := [], alts := [], laidByText := true, laidKinds := [.data, .data, .widerDeep, .widerDeep, .data, .data, .data, .data, .data, .data, .sentinel, .sentinel, .pinned, .pinned, .pinned], laidTests := true, laidLooks := .later }
def RealSumsCardSaid : Prop := Claim7.holds Tryz.pinned (.plain (OpenSpec.ofChange realSumsSpec)) realSumsCard

/-- THE TIED CARD OF 'paddocklaw02.RealDegrees'. -/
def realDegreesCard : Claim7 := { stood := { row := realDegreesRow, standIns := [], harness := (true, "3b59e004aebed98f0d4e7e95f07a6d23ce227531fd4d19510bd0af957b6e87c0"), looks := true }, kinds := [], alts := [], laidByText := true, laidKinds := [.data, .data, .widerDeep, .widerDeep, .data, .data, .data, .data, .data, .data, .sentinel, .sentinel, .pinned, .pinned, .pinned], laidTests := true, laidLooks := .later }
def RealDegreesCardSaid : Prop := Claim7.holds Tryz.pinned (.plain (OpenSpec.ofChange realDegreesSpec)) realDegreesCard

/-- THE SECOND FORM's CARD OF 'paddocklaw02.RealAll'. -/
def realAllUptoCard : Claim7 := { stood := { row := realAllUptoRow, standIns := [], harness := (true, "3b59e004aebed98f0d4e7e95f07a6d23ce227531fd4d19510bd0af957b6e87c0"), looks := true }, kinds := [], alts := [], laidByText := true, laidKinds := [.data, .data, .widerDeep, .widerDeep, .data, .data, .data, .data, .data, .data, .sentinel, .sentinel, .pinned, .pinned, .pinned], laidTests := true, laidLooks := .later }
def RealAllUptoCardSaid : Prop := Claim7.holds Tryz.pinned (.plain (OpenSpec.upto realAllSpec)) realAllUptoCard

/-- THE SECOND FORM's CARD OF 'paddocklaw02.RealRounds'. -/
def realRoundsUptoCard : Claim7 := { stood := { row := realRoundsUptoRow, standIns := [], harness := (true, "3b59e004aebed98f0d4e7e95f07a6d23ce227531fd4d19510bd0af957b6e87c0"), looks := true }, kinds := [], alts := [], laidByText := true, laidKinds := [.data, .data, .widerDeep, .widerDeep, .data, .data, .data, .data, .data, .data, .sentinel, .sentinel, .pinned, .pinned, .pinned], laidTests := true, laidLooks := .later }
def RealRoundsUptoCardSaid : Prop := Claim7.holds Tryz.pinned (.plain (OpenSpec.upto realRoundsSpec)) realRoundsUptoCard

/-- THE SECOND FORM's CARD OF 'paddocklaw02.RealSums'. -/
def realSumsUptoCard : Claim7 := { stood := { row := realSumsUptoRow, standIns := [], harness := (true, "3b59e004aebed98f0d4e7e95f07a6d23ce227531fd4d19510bd0af957b6e87c0"), looks := true }, kinds := [], alts := [], laidByText := true, laidKinds := [.data, .data, .widerDeep, .widerDeep, .data, .data, .data, .data, .data, .data, .sentinel, .sentinel, .pinned, .pinned, .pinned], laidTests := true, laidLooks := .later }
def RealSumsUptoCardSaid : Prop := Claim7.holds Tryz.pinned (.plain (OpenSpec.upto realSumsSpec)) realSumsUptoCard

/-- THE SECOND FORM's CARD OF 'paddocklaw02.RealDegrees'. -/
def realDegreesUptoCard : Claim7 := { stood := { row := realDegreesUptoRow, standIns := [], harness := (true, "3b59e004aebed98f0d4e7e95f07a6d23ce227531fd4d19510bd0af957b6e87c0"), looks := true }, kinds := [], alts := [], laidByText := true, laidKinds := [.data, .data, .widerDeep, .widerDeep, .data, .data, .data, .data, .data, .data, .sentinel, .sentinel, .pinned, .pinned, .pinned], laidTests := true, laidLooks := .later }
def RealDegreesUptoCardSaid : Prop := Claim7.holds Tryz.pinned (.plain (OpenSpec.upto realDegreesSpec)) realDegreesUptoCard
end Rows
end Go.Proofs.YtdhelpbhbhihaaaGreatDoor
