/-
  DERIVED. GIVEN WITH THE SEED: THE CARDS: each row of YtadfdkhgjjehnaaDoorRows.lean that lists a variable, with what it lists TIED to the program's text (the seventh form; the later family's looks); each row that meets fmt, with fmt's text TOLD by the authors' own Lean function (tested against real Go, not proved from fmt's source: count such statements apart). THE CARD IS WHAT COUNTS. Prove the row's statement (the work); the ties are given (YtadfdkhgjjehnaaDoorTie.lean); close each card by the builder's one call (the guide's Derived/Test/ToyasCard.lean, 'card_holds'). Laid BY PROGRAM, IN A SANDBOX (cutbox-door.mjs). By AI agents, Wed Nov 11 2026. No macro, syntax, notation, axiom, sorry.
-/
import Derived.Test.YtadfdkhgjjehnaaDoorRows
import GoSem.ClaimSeven
namespace Go.Proofs.YtadfdkhgjjehnaaDoor
namespace Rows

/-- THE TIED CARD OF 'wakemanlaw32.MisfireKeeps'. -/
def misfireKeepsCard : Claim7 := { stood := { row := misfireKeepsRow, standIns := [], harness := (true, "4032ffcadd381572a74d072de47ee81b8f01af30b4a832d1df735389ceab9c9f"), looks := true }, kinds := [], alts := [], laidByText := true, laidKinds := [.data, .data, .data], laidTests := true, laidLooks := .later }
def MisfireKeepsCardSaid : Prop := Claim7.holds Tryd.pinned (.plain (OpenSpec.ofChange misfireKeepsSpec)) misfireKeepsCard

/-- THE TIED CARD OF 'wakemanlaw32.MisfireOrders'. -/
def misfireOrdersCard : Claim7 := { stood := { row := misfireOrdersRow, standIns := [], harness := (true, "4032ffcadd381572a74d072de47ee81b8f01af30b4a832d1df735389ceab9c9f"), looks := true }, kinds := [], alts := [], laidByText := true, laidKinds := [.data, .data, .data], laidTests := true, laidLooks := .later }
def MisfireOrdersCardSaid : Prop := Claim7.holds Tryd.pinned (.plain (OpenSpec.ofChange misfireOrdersSpec)) misfireOrdersCard

/-- THE TIED CARD OF 'wakemanlaw32.MisfireParts'. -/
def misfirePartsCard : Claim7 := { stood := { row := misfirePartsRow, standIns := [], harness := (true, "4032ffcadd381572a74d072de47ee81b8f01af30b4a832d1df735389ceab9c9f"), looks := true }, kinds := [], alts := [], laidByText := true, laidKinds := [.data, .data, .data], laidTests := true, laidLooks := .later }
def MisfirePartsCardSaid : Prop := Claim7.holds Tryd.pinned (.plain (OpenSpec.ofChange misfirePartsSpec)) misfirePartsCard

/-- THE TIED CARD OF 'wakemanlaw32.MisfireLast'. -/
def misfireLastCard : Claim7 := { stood := { row := misfireLastRow, standIns := [], harness := (true, "4032ffcadd381572a74d072de47ee81b8f01af30b4a832d1df735389ceab9c9f"), looks := true }, kinds := [], alts := [], laidByText := true, laidKinds := [.data, .data, .data], laidTests := true, laidLooks := .later }
def MisfireLastCardSaid : Prop := Claim7.holds Tryd.pinned (.plain (OpenSpec.ofChange misfireLastSpec)) misfireLastCard

/-- THE TIED CARD OF 'wakemanlaw32.MisfireMerges'. -/
def misfireMergesCard : Claim7 := { stood := { row := misfireMergesRow, standIns := [], harness := (true, "4032ffcadd381572a74d072de47ee81b8f01af30b4a832d1df735389ceab9c9f"), looks := true }, kinds := [], alts := [], laidByText := true, laidKinds := [.data, .data, .data], laidTests := true, laidLooks := .later }
def MisfireMergesCardSaid : Prop := Claim7.holds Tryd.pinned (.plain (OpenSpec.ofChange misfireMergesSpec)) misfireMergesCard

/-- THE TIED CARD OF 'wakemanlaw32.MisfireJoins'. -/
def misfireJoinsCard : Claim7 := { stood := { row := misfireJoinsRow, standIns := [], harness := (true, "4032ffcadd381572a74d072de47ee81b8f01af30b4a832d1df735389ceab9c9f"), looks := true }, kinds := [], alts := [], laidByText := true, laidKinds := [.data, .data, .data], laidTests := true, laidLooks := .later }
def MisfireJoinsCardSaid : Prop := Claim7.holds Tryd.pinned (.plain (OpenSpec.ofChange misfireJoinsSpec)) misfireJoinsCard

/-- THE TIED CARD OF 'wakemanlaw32.MisfireTwice'. -/
def misfireTwiceCard : Claim7 := { stood := { row := misfireTwiceRow, standIns := [], harness := (true, "4032ffcadd381572a74d072de47ee81b8f01af30b4a832d1df735389ceab9c9f"), looks := true }, kinds := [], alts := [], laidByText := true, laidKinds := [.data, .data, .data], laidTests := true, laidLooks := .later }
def MisfireTwiceCardSaid : Prop := Claim7.holds Tryd.pinned (.plain (OpenSpec.ofChange misfireTwiceSpec)) misfireTwiceCard

/-- THE TIED CARD OF 'wakemanlaw32.MisfireTexts'. -/
def misfireTextsCard : Claim7 := { stood := { row := misfireTextsRow, standIns := [], harness := (true, "4032ffcadd381572a74d072de47ee81b8f01af30b4a832d1df735389ceab9c9f"), looks := true }, kinds := [], alts := [], laidByText := true, laidKinds := [.data, .data, .data, .sentinel, .sentinel], laidTests := true, laidLooks := .later }
def MisfireTextsCardSaid : Prop := Claim7.holds Tryd.pinned (.plain (OpenSpec.ofChange misfireTextsSpec)) misfireTextsCard

/-- THE TIED CARD OF 'wakemanlaw32.MisfireBack'. -/
def misfireBackCard : Claim7 := { stood := { row := misfireBackRow, standIns := [], harness := (true, "4032ffcadd381572a74d072de47ee81b8f01af30b4a832d1df735389ceab9c9f"), looks := true }, kinds := [], alts := [], laidByText := true, laidKinds := [.data, .data, .data, .sentinel, .sentinel], laidTests := true, laidLooks := .later }
def MisfireBackCardSaid : Prop := Claim7.holds Tryd.pinned (.plain (OpenSpec.ofChange misfireBackSpec)) misfireBackCard

/-- THE TIED CARD OF 'wakemanlaw32.MisfireKnown'. -/
def misfireKnownCard : Claim7 := { stood := { row := misfireKnownRow, standIns := [], harness := (true, "4032ffcadd381572a74d072de47ee81b8f01af30b4a832d1df735389ceab9c9f"), looks := true }, kinds := [], alts := [], laidByText := true, laidKinds := [.data, .data, .data, .sentinel, .sentinel], laidTests := true, laidLooks := .later }
def MisfireKnownCardSaid : Prop := Claim7.holds Tryd.pinned (.plain (OpenSpec.ofChange misfireKnownSpec)) misfireKnownCard

/-- THE SECOND FORM's CARD OF 'wakemanlaw32.MisfireKeeps'. -/
def misfireKeepsUptoCard : Claim7 := { stood := { row := misfireKeepsUptoRow, standIns := [], harness := (true, "4032ffcadd381572a74d072de47ee81b8f01af30b4a832d1df735389ceab9c9f"), looks := true }, kinds := [], alts := [], laidByText := true, laidKinds := [.data, .data, .data], laidTests := true, laidLooks := .later }
def MisfireKeepsUptoCardSaid : Prop := Claim7.holds Tryd.pinned (.plain (OpenSpec.upto misfireKeepsSpec)) misfireKeepsUptoCard

/-- THE SECOND FORM's CARD OF 'wakemanlaw32.MisfireOrders'. -/
def misfireOrdersUptoCard : Claim7 := { stood := { row := misfireOrdersUptoRow, standIns := [], harness := (true, "4032ffcadd381572a74d072de47ee81b8f01af30b4a832d1df735389ceab9c9f"), looks := true }, kinds := [], alts := [], laidByText := true, laidKinds := [.data, .data, .data], laidTests := true, laidLooks := .later }
def MisfireOrdersUptoCardSaid : Prop := Claim7.holds Tryd.pinned (.plain (OpenSpec.upto misfireOrdersSpec)) misfireOrdersUptoCard

/-- THE SECOND FORM's CARD OF 'wakemanlaw32.MisfireParts'. -/
def misfirePartsUptoCard : Claim7 := { stood := { row := misfirePartsUptoRow, standIns := [], harness := (true, "4032ffcadd381572a74d072de47ee81b8f01af30b4a832d1df735389ceab9c9f"), looks := true }, kinds := [], alts := [], laidByText := true, laidKinds := [.data, .data, .data], laidTests := true, laidLooks := .later }
def MisfirePartsUptoCardSaid : Prop := Claim7.holds Tryd.pinned (.plain (OpenSpec.upto misfirePartsSpec)) misfirePartsUptoCard

/-- THE SECOND FORM's CARD OF 'wakemanlaw32.MisfireLast'. -/
def misfireLastUptoCard : Claim7 := { stood := { row := misfireLastUptoRow, standIns := [], harness := (true, "4032ffcadd381572a74d072de47ee81b8f01af30b4a832d1df735389ceab9c9f"), looks := true }, kinds := [], alts := [], laidByText := true, laidKinds := [.data, .data, .data], laidTests := true, laidLooks := .later }
def MisfireLastUptoCardSaid : Prop := Claim7.holds Tryd.pinned (.plain (OpenSpec.upto misfireLastSpec)) misfireLastUptoCard

/-- THE SECOND FORM's CARD OF 'wakemanlaw32.MisfireMerges'. -/
def misfireMergesUptoCard : Claim7 := { stood := { row := misfireMergesUptoRow, standIns := [], harness := (true, "4032ffcadd381572a74d072de47ee81b8f01af30b4a832d1df735389ceab9c9f"), looks := true }, kinds := [], alts := [], laidByText := true, laidKinds := [.data, .data, .data], laidTests := true, laidLooks := .later }
def MisfireMergesUptoCardSaid : Prop := Claim7.holds Tryd.pinned (.plain (OpenSpec.upto misfireMergesSpec)) misfireMergesUptoCard

/-- THE SECOND FORM's CARD OF 'wakemanlaw32.MisfireJoins'. -/
def misfireJoinsUptoCard : Claim7 := { stood := { row := misfireJoinsUptoRow, standIns := [], harness := (true, "4032ffcadd381572a74d072de47ee81b8f01af30b4a832d1df735389ceab9c9f"), looks := true }, kinds := [], alts := [], laidByText := true, laidKinds := [.data, .data, .data], laidTests := true, laidLooks := .later }
def MisfireJoinsUptoCardSaid : Prop := Claim7.holds Tryd.pinned (.plain (OpenSpec.upto misfireJoinsSpec)) misfireJoinsUptoCard

/-- THE SECOND FORM's CARD OF 'wakemanlaw32.MisfireTwice'. -/
def misfireTwiceUptoCard : Claim7 := { stood := { row := misfireTwiceUptoRow, standIns := [], harness := (true, "4032ffcadd381572a74d072de47ee81b8f01af30b4a832d1df735389ceab9c9f"), looks := true }, kinds := [], alts := [], laidByText := true, laidKinds := [.data, .data, .data], laidTests := true, laidLooks := .later }
def MisfireTwiceUptoCardSaid : Prop := Claim7.holds Tryd.pinned (.plain (OpenSpec.upto misfireTwiceSpec)) misfireTwiceUptoCard

/-- THE SECOND FORM's CARD OF 'wakemanlaw32.MisfireTexts'. -/
def misfireTextsUptoCard : Claim7 := { stood := { row := misfireTextsUptoRow, standIns := [], harness := (true, "4032ffcadd381572a74d072de47ee81b8f01af30b4a832d1df735389ceab9c9f"), looks := true }, kinds := [], alts := [], laidByText := true, laidKinds := [.data, .data, .data, .sentinel, .sentinel], laidTests := true, laidLooks := .later }
def MisfireTextsUptoCardSaid : Prop := Claim7.holds Tryd.pinned (.plain (OpenSpec.upto misfireTextsSpec)) misfireTextsUptoCard

/-- THE SECOND FORM's CARD OF 'wakemanlaw32.MisfireBack'. -/
def misfireBackUptoCard : Claim7 := { stood := { row := misfireBackUptoRow, standIns := [], harness := (true, "4032ffcadd381572a74d072de47ee81b8f01af30b4a832d1df735389ceab9c9f"), looks := true }, kinds := [], alts := [], laidByText := true, laidKinds := [.data, .data, .data, .sentinel, .sentinel], laidTests := true, laidLooks := .later }
def MisfireBackUptoCardSaid : Prop := Claim7.holds Tryd.pinned (.plain (OpenSpec.upto misfireBackSpec)) misfireBackUptoCard

/-- THE SECOND FORM's CARD OF 'wakemanlaw32.MisfireKnown'. -/
def misfireKnownUptoCard : Claim7 := { stood := { row := misfireKnownUptoRow, standIns := [], harness := (true, "4032ffcadd381572a74d072de47ee81b8f01af30b4a832d1df735389ceab9c9f"), looks := true }, kinds := [], alts := [], laidByText := true, laidKinds := [.data, .data, .data, .sentinel, .sentinel], laidTests := true, laidLooks := .later }
def MisfireKnownUptoCardSaid : Prop := Claim7.holds Tryd.pinned (.plain (OpenSpec.upto misfireKnownSpec)) misfireKnownUptoCard
end Rows
end Go.Proofs.YtadfdkhgjjehnaaDoor
