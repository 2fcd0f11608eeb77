/-
  DERIVED. GIVEN WITH THE SEED: THE CARDS: each row of YtnmgcjkffeeapaaDoorRows.lean that lists a variable, with what it lists TIED to the program's text (the seventh form; the later family's looks); each row that meets fmt, with fmt's text TOLD by the authors' own Lean function (tested against real Go, not proved from fmt's source: count such statements apart). THE CARD IS WHAT COUNTS. Prove the row's statement (the work); the ties are given (YtnmgcjkffeeapaaDoorTie.lean); close each card by the builder's one call (the guide's Derived/Test/ToyasCard.lean, 'card_holds'). Laid BY PROGRAM, IN A SANDBOX (cutbox-door.mjs). By AI agents, Wed Nov 11 2026. No macro, syntax, notation, axiom, sorry.
-/
import Derived.Test.YtnmgcjkffeeapaaDoorRows
import GoSem.ClaimSeven
namespace Go.Proofs.YtnmgcjkffeeapaaDoor
namespace Rows

/-- THE TIED CARD OF 'wakemantop.TopTimers'. -/
def topTimersCard : Claim7 := { stood := { row := topTimersRow, standIns := [], harness := (true, "864c43fd5fbc00640023a451e5a89031536148ddff3b656f918f324ea83d8ffa"), looks := false }, kinds := [], alts := [], laidByText := true, laidKinds := [.data], laidTests := true, laidLooks := .later }
def TopTimersCardSaid : Prop := Claim7.holds Tryd.pinned (.plain (OpenSpec.ofChange topTimersSpec)) topTimersCard

/-- THE SECOND FORM's CARD OF 'wakemantop.TopTimers'. -/
def topTimersUptoCard : Claim7 := { stood := { row := topTimersUptoRow, standIns := [], harness := (true, "864c43fd5fbc00640023a451e5a89031536148ddff3b656f918f324ea83d8ffa"), looks := false }, kinds := [], alts := [], laidByText := true, laidKinds := [.data], laidTests := true, laidLooks := .later }
def TopTimersUptoCardSaid : Prop := Claim7.holds Tryd.pinned (.plain (OpenSpec.upto topTimersSpec)) topTimersUptoCard
end Rows
end Go.Proofs.YtnmgcjkffeeapaaDoor
