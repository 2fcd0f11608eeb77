/-
  DERIVED. GIVEN WITH THE SEED: THE CARDS: each row of YtdhlgmclogdplaaDoorRows.lean that lists a variable, with what it lists TIED to the program's text (the seventh form; the later family's looks); each row that meets fmt, with fmt's text TOLD by the authors' own Lean function (tested against real Go, not proved from fmt's source: count such statements apart). THE CARD IS WHAT COUNTS. Prove the row's statement (the work); the ties are given (YtdhlgmclogdplaaDoorTie.lean); close each card by the builder's one call (the guide's Derived/Test/ToyasCard.lean, 'card_holds'). Laid BY PROGRAM, IN A SANDBOX (cutbox-door.mjs). By AI agents, Wed Nov 11 2026. No macro, syntax, notation, axiom, sorry.
-/
import Derived.Test.YtdhlgmclogdplaaDoorRows
import GoSem.ClaimSeven
namespace Go.Proofs.YtdhlgmclogdplaaDoor
namespace Rows

/-- THE TIED CARD OF 'wakemanlaw02.CivilDates'. -/
def civilDatesCard : Claim7 := { stood := { row := civilDatesRow, standIns := [], harness := (true, "912d529297a30546d4cf5e767406cb50867f206f55bda2a2ef38fea211d7be58"), looks := false }, kinds := [], alts := [], laidByText := true, laidKinds := [.data, .data, .data], laidTests := true, laidLooks := .later }
def CivilDatesCardSaid : Prop := Claim7.holds Tryd.pinned (.plain (OpenSpec.ofChange civilDatesSpec)) civilDatesCard

/-- THE TIED CARD OF 'wakemanlaw02.CivilTimes'. -/
def civilTimesCard : Claim7 := { stood := { row := civilTimesRow, standIns := [], harness := (true, "912d529297a30546d4cf5e767406cb50867f206f55bda2a2ef38fea211d7be58"), looks := false }, kinds := [], alts := [], laidByText := true, laidKinds := [.data, .data, .data], laidTests := true, laidLooks := .later }
def CivilTimesCardSaid : Prop := Claim7.holds Tryd.pinned (.plain (OpenSpec.ofChange civilTimesSpec)) civilTimesCard

/-- THE TIED CARD OF 'wakemanlaw02.CivilTexts'. -/
def civilTextsCard : Claim7 := { stood := { row := civilTextsRow, standIns := [], harness := (true, "912d529297a30546d4cf5e767406cb50867f206f55bda2a2ef38fea211d7be58"), looks := false }, kinds := [], alts := [], laidByText := true, laidKinds := [.data, .data, .data], laidTests := true, laidLooks := .later }
def CivilTextsCardSaid : Prop := Claim7.holds Tryd.pinned (.plain (OpenSpec.ofChange civilTextsSpec)) civilTextsCard

/-- THE TIED CARD OF 'wakemanlaw02.CivilBack'. -/
def civilBackCard : Claim7 := { stood := { row := civilBackRow, standIns := [], harness := (true, "912d529297a30546d4cf5e767406cb50867f206f55bda2a2ef38fea211d7be58"), looks := false }, kinds := [], alts := [], laidByText := true, laidKinds := [.data, .data, .data], laidTests := true, laidLooks := .later }
def CivilBackCardSaid : Prop := Claim7.holds Tryd.pinned (.plain (OpenSpec.ofChange civilBackSpec)) civilBackCard

/-- THE TIED CARD OF 'wakemanlaw02.CivilWeeks'. -/
def civilWeeksCard : Claim7 := { stood := { row := civilWeeksRow, standIns := [], harness := (true, "912d529297a30546d4cf5e767406cb50867f206f55bda2a2ef38fea211d7be58"), looks := false }, kinds := [], alts := [], laidByText := true, laidKinds := [.data, .data, .data], laidTests := true, laidLooks := .later }
def CivilWeeksCardSaid : Prop := Claim7.holds Tryd.pinned (.plain (OpenSpec.ofChange civilWeeksSpec)) civilWeeksCard

/-- THE TIED CARD OF 'wakemanlaw02.CivilCycles'. -/
def civilCyclesCard : Claim7 := { stood := { row := civilCyclesRow, standIns := [], harness := (true, "912d529297a30546d4cf5e767406cb50867f206f55bda2a2ef38fea211d7be58"), looks := false }, kinds := [], alts := [], laidByText := true, laidKinds := [.data, .data, .data], laidTests := true, laidLooks := .later }
def CivilCyclesCardSaid : Prop := Claim7.holds Tryd.pinned (.plain (OpenSpec.ofChange civilCyclesSpec)) civilCyclesCard

/-- THE TIED CARD OF 'wakemanlaw02.CivilOne'. -/
def civilOneCard : Claim7 := { stood := { row := civilOneRow, standIns := [], harness := (true, "912d529297a30546d4cf5e767406cb50867f206f55bda2a2ef38fea211d7be58"), looks := false }, kinds := [], alts := [], laidByText := true, laidKinds := [.data, .data, .data], laidTests := true, laidLooks := .later }
def CivilOneCardSaid : Prop := Claim7.holds Tryd.pinned (.plain (OpenSpec.ofChange civilOneSpec)) civilOneCard

/-- THE TIED CARD OF 'wakemanlaw02.CivilDays'. -/
def civilDaysCard : Claim7 := { stood := { row := civilDaysRow, standIns := [], harness := (true, "912d529297a30546d4cf5e767406cb50867f206f55bda2a2ef38fea211d7be58"), looks := false }, kinds := [], alts := [], laidByText := true, laidKinds := [.data, .data, .data], laidTests := true, laidLooks := .later }
def CivilDaysCardSaid : Prop := Claim7.holds Tryd.pinned (.plain (OpenSpec.ofChange civilDaysSpec)) civilDaysCard

/-- THE TIED CARD OF 'wakemanlaw02.CivilMonths'. -/
def civilMonthsCard : Claim7 := { stood := { row := civilMonthsRow, standIns := [], harness := (true, "912d529297a30546d4cf5e767406cb50867f206f55bda2a2ef38fea211d7be58"), looks := false }, kinds := [], alts := [], laidByText := true, laidKinds := [.data, .data, .data], laidTests := true, laidLooks := .later }
def CivilMonthsCardSaid : Prop := Claim7.holds Tryd.pinned (.plain (OpenSpec.ofChange civilMonthsSpec)) civilMonthsCard

/-- THE TIED CARD OF 'wakemanlaw02.CivilSeconds'. -/
def civilSecondsCard : Claim7 := { stood := { row := civilSecondsRow, standIns := [], harness := (true, "912d529297a30546d4cf5e767406cb50867f206f55bda2a2ef38fea211d7be58"), looks := false }, kinds := [], alts := [], laidByText := true, laidKinds := [.data, .data, .data], laidTests := true, laidLooks := .later }
def CivilSecondsCardSaid : Prop := Claim7.holds Tryd.pinned (.plain (OpenSpec.ofChange civilSecondsSpec)) civilSecondsCard

/-- THE TIED CARD OF 'wakemanlaw02.CivilGrows'. -/
def civilGrowsCard : Claim7 := { stood := { row := civilGrowsRow, standIns := [], harness := (true, "912d529297a30546d4cf5e767406cb50867f206f55bda2a2ef38fea211d7be58"), looks := false }, kinds := [], alts := [], laidByText := true, laidKinds := [.data, .data, .data], laidTests := true, laidLooks := .later }
def CivilGrowsCardSaid : Prop := Claim7.holds Tryd.pinned (.plain (OpenSpec.ofChange civilGrowsSpec)) civilGrowsCard

/-- THE TIED CARD OF 'wakemanlaw02.CivilOrders'. -/
def civilOrdersCard : Claim7 := { stood := { row := civilOrdersRow, standIns := [], harness := (true, "912d529297a30546d4cf5e767406cb50867f206f55bda2a2ef38fea211d7be58"), looks := false }, kinds := [], alts := [], laidByText := true, laidKinds := [.data, .data, .data], laidTests := true, laidLooks := .later }
def CivilOrdersCardSaid : Prop := Claim7.holds Tryd.pinned (.plain (OpenSpec.ofChange civilOrdersSpec)) civilOrdersCard

/-- THE SECOND FORM's CARD OF 'wakemanlaw02.CivilDates'. -/
def civilDatesUptoCard : Claim7 := { stood := { row := civilDatesUptoRow, standIns := [], harness := (true, "912d529297a30546d4cf5e767406cb50867f206f55bda2a2ef38fea211d7be58"), looks := false }, kinds := [], alts := [], laidByText := true, laidKinds := [.data, .data, .data], laidTests := true, laidLooks := .later }
def CivilDatesUptoCardSaid : Prop := Claim7.holds Tryd.pinned (.plain (OpenSpec.upto civilDatesSpec)) civilDatesUptoCard

/-- THE SECOND FORM's CARD OF 'wakemanlaw02.CivilTimes'. -/
def civilTimesUptoCard : Claim7 := { stood := { row := civilTimesUptoRow, standIns := [], harness := (true, "912d529297a30546d4cf5e767406cb50867f206f55bda2a2ef38fea211d7be58"), looks := false }, kinds := [], alts := [], laidByText := true, laidKinds := [.data, .data, .data], laidTests := true, laidLooks := .later }
def CivilTimesUptoCardSaid : Prop := Claim7.holds Tryd.pinned (.plain (OpenSpec.upto civilTimesSpec)) civilTimesUptoCard

/-- THE SECOND FORM's CARD OF 'wakemanlaw02.CivilTexts'. -/
def civilTextsUptoCard : Claim7 := { stood := { row := civilTextsUptoRow, standIns := [], harness := (true, "912d529297a30546d4cf5e767406cb50867f206f55bda2a2ef38fea211d7be58"), looks := false }, kinds := [], alts := [], laidByText := true, laidKinds := [.data, .data, .data], laidTests := true, laidLooks := .later }
def CivilTextsUptoCardSaid : Prop := Claim7.holds Tryd.pinned (.plain (OpenSpec.upto civilTextsSpec)) civilTextsUptoCard

/-- THE SECOND FORM's CARD OF 'wakemanlaw02.CivilBack'. -/
def civilBackUptoCard : Claim7 := { stood := { row := civilBackUptoRow, standIns := [], harness := (true, "912d529297a30546d4cf5e767406cb50867f206f55bda2a2ef38fea211d7be58"), looks := false }, kinds := [], alts := [], laidByText := true, laidKinds := [.data, .data, .data], laidTests := true, laidLooks := .later }
def CivilBackUptoCardSaid : Prop := Claim7.holds Tryd.pinned (.plain (OpenSpec.upto civilBackSpec)) civilBackUptoCard

/-- THE SECOND FORM's CARD OF 'wakemanlaw02.CivilWeeks'. -/
def civilWeeksUptoCard : Claim7 := { stood := { row := civilWeeksUptoRow, standIns := [], harness := (true, "912d529297a30546d4cf5e767406cb50867f206f55bda2a2ef38fea211d7be58"), looks := false }, kinds := [], alts := [], laidByText := true, laidKinds := [.data, .data, .data], laidTests := true, laidLooks := .later }
def CivilWeeksUptoCardSaid : Prop := Claim7.holds Tryd.pinned (.plain (OpenSpec.upto civilWeeksSpec)) civilWeeksUptoCard

/-- THE SECOND FORM's CARD OF 'wakemanlaw02.CivilCycles'. -/
def civilCyclesUptoCard : Claim7 := { stood := { row := civilCyclesUptoRow, standIns := [], harness := (true, "912d529297a30546d4cf5e767406cb50867f206f55bda2a2ef38fea211d7be58"), looks := false }, kinds := [], alts := [], laidByText := true, laidKinds := [.data, .data, .data], laidTests := true, laidLooks := .later }
def CivilCyclesUptoCardSaid : Prop := Claim7.holds Tryd.pinned (.plain (OpenSpec.upto civilCyclesSpec)) civilCyclesUptoCard

/-- THE SECOND FORM's CARD OF 'wakemanlaw02.CivilOne'. -/
def civilOneUptoCard : Claim7 := { stood := { row := civilOneUptoRow, standIns := [], harness := (true, "912d529297a30546d4cf5e767406cb50867f206f55bda2a2ef38fea211d7be58"), looks := false }, kinds := [], alts := [], laidByText := true, laidKinds := [.data, .data, .data], laidTests := true, laidLooks := .later }
def CivilOneUptoCardSaid : Prop := Claim7.holds Tryd.pinned (.plain (OpenSpec.upto civilOneSpec)) civilOneUptoCard

/-- THE SECOND FORM's CARD OF 'wakemanlaw02.CivilDays'. -/
def civilDaysUptoCard : Claim7 := { stood := { row := civilDaysUptoRow, standIns := [], harness := (true, "912d529297a30546d4cf5e767406cb50867f206f55bda2a2ef38fea211d7be58"), looks := false }, kinds := [], alts := [], laidByText := true, laidKinds := [.data, .data, .data], laidTests := true, laidLooks := .later }
def CivilDaysUptoCardSaid : Prop := Claim7.holds Tryd.pinned (.plain (OpenSpec.upto civilDaysSpec)) civilDaysUptoCard

/-- THE SECOND FORM's CARD OF 'wakemanlaw02.CivilMonths'. -/
def civilMonthsUptoCard : Claim7 := { stood := { row := civilMonthsUptoRow, standIns := [], harness := (true, "912d529297a30546d4cf5e767406cb50867f206f55bda2a2ef38fea211d7be58"), looks := false }, kinds := [], alts := [], laidByText := true, laidKinds := [.data, .data, .data], laidTests := true, laidLooks := .later }
def CivilMonthsUptoCardSaid : Prop := Claim7.holds Tryd.pinned (.plain (OpenSpec.upto civilMonthsSpec)) civilMonthsUptoCard

/-- THE SECOND FORM's CARD OF 'wakemanlaw02.CivilSeconds'. -/
def civilSecondsUptoCard : Claim7 := { stood := { row := civilSecondsUptoRow, standIns := [], harness := (true, "912d529297a30546d4cf5e767406cb50867f206f55bda2a2ef38fea211d7be58"), looks := false }, kinds := [], alts := [], laidByText := true, laidKinds := [.data, .data, .data], laidTests := true, laidLooks := .later }
def CivilSecondsUptoCardSaid : Prop := Claim7.holds Tryd.pinned (.plain (OpenSpec.upto civilSecondsSpec)) civilSecondsUptoCard

/-- THE SECOND FORM's CARD OF 'wakemanlaw02.CivilGrows'. -/
def civilGrowsUptoCard : Claim7 := { stood := { row := civilGrowsUptoRow, standIns := [], harness := (true, "912d529297a30546d4cf5e767406cb50867f206f55bda2a2ef38fea211d7be58"), looks := false }, kinds := [], alts := [], laidByText := true, laidKinds := [.data, .data, .data], laidTests := true, laidLooks := .later }
def CivilGrowsUptoCardSaid : Prop := Claim7.holds Tryd.pinned (.plain (OpenSpec.upto civilGrowsSpec)) civilGrowsUptoCard

/-- THE SECOND FORM's CARD OF 'wakemanlaw02.CivilOrders'. -/
def civilOrdersUptoCard : Claim7 := { stood := { row := civilOrdersUptoRow, standIns := [], harness := (true, "912d529297a30546d4cf5e767406cb50867f206f55bda2a2ef38fea211d7be58"), looks := false }, kinds := [], alts := [], laidByText := true, laidKinds := [.data, .data, .data], laidTests := true, laidLooks := .later }
def CivilOrdersUptoCardSaid : Prop := Claim7.holds Tryd.pinned (.plain (OpenSpec.upto civilOrdersSpec)) civilOrdersUptoCard
end Rows
end Go.Proofs.YtdhlgmclogdplaaDoor
