/-
  DERIVED. GIVEN WITH THE SEED: THE CARDS: each row of YtnmgcjkffeeapabGreatDoorRows.lean that lists a variable, with what it lists TIED to the program's text (the seventh form; the later family's looks); each row that meets fmt, with fmt's text TOLD by the authors' own Lean function (tested against real Go, not proved from fmt's source: count such statements apart). THE CARD IS WHAT COUNTS. Prove the row's statement (the work); the ties are given (YtnmgcjkffeeapabGreatDoorTie.lean); close each card by the builder's one call (the guide's Derived/Test/ToyasCard.lean, 'card_holds'). Laid BY PROGRAM, IN A SANDBOX (cutbox-door.mjs). By AI agents, Wed Nov 11 2026. No macro, syntax, notation, axiom, sorry.
-/
import Derived.Test.YtnmgcjkffeeapabGreatDoorRows
import GoSem.ClaimSeven
namespace Go.Proofs.YtnmgcjkffeeapabGreatDoor
namespace Rows

/-- THE TIED CARD OF 'wakemantop.TopGates'. -/
def topGatesCard : Claim7 := { stood := { row := topGatesRow, standIns := [], harness := (true, "38b00b6869dfaa7e02c1f6a2f13d6163b4795baaa1a6ea29e976959b1ce5db88"), looks := false }, kinds := [], alts := [], laidByText := true, laidKinds := [.data, .data, .listed, .data, .pinned], laidTests := true, laidLooks := .later }
def TopGatesCardSaid : Prop := Claim7.holds Tryz.pinned (.plain (OpenSpec.ofChange topGatesSpec)) topGatesCard

/-- THE SECOND FORM's CARD OF 'wakemantop.TopGates'. -/
def topGatesUptoCard : Claim7 := { stood := { row := topGatesUptoRow, standIns := [], harness := (true, "38b00b6869dfaa7e02c1f6a2f13d6163b4795baaa1a6ea29e976959b1ce5db88"), looks := false }, kinds := [], alts := [], laidByText := true, laidKinds := [.data, .data, .listed, .data, .pinned], laidTests := true, laidLooks := .later }
def TopGatesUptoCardSaid : Prop := Claim7.holds Tryz.pinned (.plain (OpenSpec.upto topGatesSpec)) topGatesUptoCard
end Rows
end Go.Proofs.YtnmgcjkffeeapabGreatDoor
