/-
  No cell of these rows narrows 'for every input' (looked for: loops, veiled, ifaces, maps, wideKeys, modest, calm, conditions, laid).
  DERIVED. THE GIVEN ROWS OF THIS SEAT. 10 by the template 'for every input the law returns true; each argument reads behind the call as it read before'; 0 by the template 'total and deterministic' (their statements: YtpenjmflkhhdgaaTotals.lean).
  GIVEN WITH THE SEED: the statements are not yours to turn. If you find one false, say at which input.
  Laid BY PROGRAM, IN A SANDBOX (cutbox-rows.mjs): the forced cells as the released guide's own fill.sh prints them over the translation 4189dd498573a3ab… (all of the seat's roots in one cut). By AI agents, Wed Nov 11 2026. No macro, syntax, notation, axiom, sorry.
-/
import Derived.Test.YtpenjmflkhhdgaaChecked
import GoSem.Claim
import GoSem.ClaimJoined
import GoSem.ClaimMapViews
import Derived.JoinedTies
import Derived.KernelRfl
namespace Go.Proofs.Ytpenjmflkhhdgaa
/- THE CELL 'sum', in the pinned program and in every row, IS THE sha256 OF THE DUMP (.gsa) THAT YtpenjmflkhhdgaaProg.lean LOADS. Nothing in Lean hashes anything: it is a label: what it is worth is what the hold of that sum in a sandbox is worth. -/
noncomputable def Try.pinned : Pinned := { name := "ytpenjmflkhhdgaa", sum := "4189dd498573a3ab3ee069287c4ab7588467b708b644f9549cbd8dcb97896210", checked := Try.checked }
namespace Rows
def none {H : Type} : Left H := { results := [], args := [] }

/-- 'wakemanlaw03.ZoneTexts': WHATEVER THE INPUT: true; the input reads as it did. -/
def zoneTextsSpec : ChangeSpec := { name := "zoneTexts", fn := fun _ => fun
  | [d1, d2] => { results := [.lit (.bool true)], args := [d1, d2] }
  | _ => none }
def zoneTextsRow : OpenClaim := { program := "ytpenjmflkhhdgaa", sum := "4189dd498573a3ab3ee069287c4ab7588467b708b644f9549cbd8dcb97896210", func := "wakeman/wakemanlaw03.ZoneTexts", spec := "zoneTexts", apart := false }
def ZoneTextsSaid : Prop := zoneTextsRow.holds Try.pinned (OpenSpec.ofChange zoneTextsSpec)

/-- ITS FALSE NEIGHBOUR: 'it returns false'. Refute it at one input. -/
def zoneTextsWrong : ChangeSpec := { name := "zoneTexts", fn := fun _ => fun
  | [d1, d2] => { results := [.lit (.bool false)], args := [d1, d2] }
  | _ => none }
def ZoneTextsWrongFalsely : Prop := zoneTextsRow.holds Try.pinned (OpenSpec.ofChange zoneTextsWrong)

/-- 'wakemanlaw03.ZoneLocals': WHATEVER THE INPUT: true; the input reads as it did. -/
def zoneLocalsSpec : ChangeSpec := { name := "zoneLocals", fn := fun _ => fun
  | [d1, d2] => { results := [.lit (.bool true)], args := [d1, d2] }
  | _ => none }
def zoneLocalsRow : OpenClaim := { program := "ytpenjmflkhhdgaa", sum := "4189dd498573a3ab3ee069287c4ab7588467b708b644f9549cbd8dcb97896210", func := "wakeman/wakemanlaw03.ZoneLocals", spec := "zoneLocals", apart := false }
def ZoneLocalsSaid : Prop := zoneLocalsRow.holds Try.pinned (OpenSpec.ofChange zoneLocalsSpec)

/-- ITS FALSE NEIGHBOUR: 'it returns false'. Refute it at one input. -/
def zoneLocalsWrong : ChangeSpec := { name := "zoneLocals", fn := fun _ => fun
  | [d1, d2] => { results := [.lit (.bool false)], args := [d1, d2] }
  | _ => none }
def ZoneLocalsWrongFalsely : Prop := zoneLocalsRow.holds Try.pinned (OpenSpec.ofChange zoneLocalsWrong)

/-- 'wakemanlaw03.ZoneShifts': WHATEVER THE INPUT: true; the input reads as it did. -/
def zoneShiftsSpec : ChangeSpec := { name := "zoneShifts", fn := fun _ => fun
  | [d1, d2] => { results := [.lit (.bool true)], args := [d1, d2] }
  | _ => none }
def zoneShiftsRow : OpenClaim := { program := "ytpenjmflkhhdgaa", sum := "4189dd498573a3ab3ee069287c4ab7588467b708b644f9549cbd8dcb97896210", func := "wakeman/wakemanlaw03.ZoneShifts", spec := "zoneShifts", apart := false }
def ZoneShiftsSaid : Prop := zoneShiftsRow.holds Try.pinned (OpenSpec.ofChange zoneShiftsSpec)

/-- ITS FALSE NEIGHBOUR: 'it returns false'. Refute it at one input. -/
def zoneShiftsWrong : ChangeSpec := { name := "zoneShifts", fn := fun _ => fun
  | [d1, d2] => { results := [.lit (.bool false)], args := [d1, d2] }
  | _ => none }
def ZoneShiftsWrongFalsely : Prop := zoneShiftsRow.holds Try.pinned (OpenSpec.ofChange zoneShiftsWrong)

/-- 'wakemanlaw03.ZoneSpells': WHATEVER THE INPUT: true; the input reads as it did. -/
def zoneSpellsSpec : ChangeSpec := { name := "zoneSpells", fn := fun _ => fun
  | [d1, d2] => { results := [.lit (.bool true)], args := [d1, d2] }
  | _ => none }
def zoneSpellsRow : OpenClaim := { program := "ytpenjmflkhhdgaa", sum := "4189dd498573a3ab3ee069287c4ab7588467b708b644f9549cbd8dcb97896210", func := "wakeman/wakemanlaw03.ZoneSpells", spec := "zoneSpells", apart := false }
def ZoneSpellsSaid : Prop := zoneSpellsRow.holds Try.pinned (OpenSpec.ofChange zoneSpellsSpec)

/-- ITS FALSE NEIGHBOUR: 'it returns false'. Refute it at one input. -/
def zoneSpellsWrong : ChangeSpec := { name := "zoneSpells", fn := fun _ => fun
  | [d1, d2] => { results := [.lit (.bool false)], args := [d1, d2] }
  | _ => none }
def ZoneSpellsWrongFalsely : Prop := zoneSpellsRow.holds Try.pinned (OpenSpec.ofChange zoneSpellsWrong)

/-- 'wakemanlaw03.ZoneSames': WHATEVER THE INPUT: true; the input reads as it did. -/
def zoneSamesSpec : ChangeSpec := { name := "zoneSames", fn := fun _ => fun
  | [d1, d2, d3] => { results := [.lit (.bool true)], args := [d1, d2, d3] }
  | _ => none }
def zoneSamesRow : OpenClaim := { program := "ytpenjmflkhhdgaa", sum := "4189dd498573a3ab3ee069287c4ab7588467b708b644f9549cbd8dcb97896210", func := "wakeman/wakemanlaw03.ZoneSames", spec := "zoneSames", apart := false }
def ZoneSamesSaid : Prop := zoneSamesRow.holds Try.pinned (OpenSpec.ofChange zoneSamesSpec)

/-- ITS FALSE NEIGHBOUR: 'it returns false'. Refute it at one input. -/
def zoneSamesWrong : ChangeSpec := { name := "zoneSames", fn := fun _ => fun
  | [d1, d2, d3] => { results := [.lit (.bool false)], args := [d1, d2, d3] }
  | _ => none }
def ZoneSamesWrongFalsely : Prop := zoneSamesRow.holds Try.pinned (OpenSpec.ofChange zoneSamesWrong)

/-- 'wakemanlaw03.ZoneDays': WHATEVER THE INPUT: true; the input reads as it did. -/
def zoneDaysSpec : ChangeSpec := { name := "zoneDays", fn := fun _ => fun
  | [d1, d2] => { results := [.lit (.bool true)], args := [d1, d2] }
  | _ => none }
def zoneDaysRow : OpenClaim := { program := "ytpenjmflkhhdgaa", sum := "4189dd498573a3ab3ee069287c4ab7588467b708b644f9549cbd8dcb97896210", func := "wakeman/wakemanlaw03.ZoneDays", spec := "zoneDays", apart := false }
def ZoneDaysSaid : Prop := zoneDaysRow.holds Try.pinned (OpenSpec.ofChange zoneDaysSpec)

/-- ITS FALSE NEIGHBOUR: 'it returns false'. Refute it at one input. -/
def zoneDaysWrong : ChangeSpec := { name := "zoneDays", fn := fun _ => fun
  | [d1, d2] => { results := [.lit (.bool false)], args := [d1, d2] }
  | _ => none }
def ZoneDaysWrongFalsely : Prop := zoneDaysRow.holds Try.pinned (OpenSpec.ofChange zoneDaysWrong)

/-- 'wakemanlaw03.ZoneSplits': WHATEVER THE INPUT: true; the input reads as it did. -/
def zoneSplitsSpec : ChangeSpec := { name := "zoneSplits", fn := fun _ => fun
  | [d1, d2, d3] => { results := [.lit (.bool true)], args := [d1, d2, d3] }
  | _ => none }
def zoneSplitsRow : OpenClaim := { program := "ytpenjmflkhhdgaa", sum := "4189dd498573a3ab3ee069287c4ab7588467b708b644f9549cbd8dcb97896210", func := "wakeman/wakemanlaw03.ZoneSplits", spec := "zoneSplits", apart := false }
def ZoneSplitsSaid : Prop := zoneSplitsRow.holds Try.pinned (OpenSpec.ofChange zoneSplitsSpec)

/-- ITS FALSE NEIGHBOUR: 'it returns false'. Refute it at one input. -/
def zoneSplitsWrong : ChangeSpec := { name := "zoneSplits", fn := fun _ => fun
  | [d1, d2, d3] => { results := [.lit (.bool false)], args := [d1, d2, d3] }
  | _ => none }
def ZoneSplitsWrongFalsely : Prop := zoneSplitsRow.holds Try.pinned (OpenSpec.ofChange zoneSplitsWrong)

/-- 'wakemanlaw03.ZoneBacks': WHATEVER THE INPUT: true; the input reads as it did. -/
def zoneBacksSpec : ChangeSpec := { name := "zoneBacks", fn := fun _ => fun
  | [d1, d2] => { results := [.lit (.bool true)], args := [d1, d2] }
  | _ => none }
def zoneBacksRow : OpenClaim := { program := "ytpenjmflkhhdgaa", sum := "4189dd498573a3ab3ee069287c4ab7588467b708b644f9549cbd8dcb97896210", func := "wakeman/wakemanlaw03.ZoneBacks", spec := "zoneBacks", apart := false }
def ZoneBacksSaid : Prop := zoneBacksRow.holds Try.pinned (OpenSpec.ofChange zoneBacksSpec)

/-- ITS FALSE NEIGHBOUR: 'it returns false'. Refute it at one input. -/
def zoneBacksWrong : ChangeSpec := { name := "zoneBacks", fn := fun _ => fun
  | [d1, d2] => { results := [.lit (.bool false)], args := [d1, d2] }
  | _ => none }
def ZoneBacksWrongFalsely : Prop := zoneBacksRow.holds Try.pinned (OpenSpec.ofChange zoneBacksWrong)

/-- 'wakemanlaw03.ZoneReturns': WHATEVER THE INPUT: true; the input reads as it did. -/
def zoneReturnsSpec : ChangeSpec := { name := "zoneReturns", fn := fun _ => fun
  | [d1, d2, d3] => { results := [.lit (.bool true)], args := [d1, d2, d3] }
  | _ => none }
def zoneReturnsRow : OpenClaim := { program := "ytpenjmflkhhdgaa", sum := "4189dd498573a3ab3ee069287c4ab7588467b708b644f9549cbd8dcb97896210", func := "wakeman/wakemanlaw03.ZoneReturns", spec := "zoneReturns", apart := false }
def ZoneReturnsSaid : Prop := zoneReturnsRow.holds Try.pinned (OpenSpec.ofChange zoneReturnsSpec)

/-- ITS FALSE NEIGHBOUR: 'it returns false'. Refute it at one input. -/
def zoneReturnsWrong : ChangeSpec := { name := "zoneReturns", fn := fun _ => fun
  | [d1, d2, d3] => { results := [.lit (.bool false)], args := [d1, d2, d3] }
  | _ => none }
def ZoneReturnsWrongFalsely : Prop := zoneReturnsRow.holds Try.pinned (OpenSpec.ofChange zoneReturnsWrong)

/-- 'wakemanlaw03.ZoneEnds': WHATEVER THE INPUT: true; the input reads as it did. -/
def zoneEndsSpec : ChangeSpec := { name := "zoneEnds", fn := fun _ => fun
  | [] => { results := [.lit (.bool true)], args := [] }
  | _ => none }
def zoneEndsRow : OpenClaim := { program := "ytpenjmflkhhdgaa", sum := "4189dd498573a3ab3ee069287c4ab7588467b708b644f9549cbd8dcb97896210", func := "wakeman/wakemanlaw03.ZoneEnds", spec := "zoneEnds", apart := false }
def ZoneEndsSaid : Prop := zoneEndsRow.holds Try.pinned (OpenSpec.ofChange zoneEndsSpec)

/-- ITS FALSE NEIGHBOUR: 'it returns false'. Refute it at one input. -/
def zoneEndsWrong : ChangeSpec := { name := "zoneEnds", fn := fun _ => fun
  | [] => { results := [.lit (.bool false)], args := [] }
  | _ => none }
def ZoneEndsWrongFalsely : Prop := zoneEndsRow.holds Try.pinned (OpenSpec.ofChange zoneEndsWrong)

/- THE SECOND FORM. 'bulk': how many values and letters a reading holds, each counted each time it is reached (what is shared counts as often as it is met; a slice's spare places count too). A statement '..UptoSaid' is the law's where the arguments, and the package variables that the reading takes, are together of bulk at most 1048576: NARROWER than '..Said'. Prove '..Said' where nothing that the law and all that it calls make is longer than what came in: it says more and counts as full. Else prove '..UptoSaid'. A law counts once. -/
mutual
def uptoBulk {H : Type} : DataW H → Nat
  | .lit (.string bytes) => bytes.length + 1
  | .lit _ => 1
  | .nil => 1
  | .ptr d => uptoBulk d + 1
  | .slice elems spare => uptoBulkAll elems + uptoBulkAll spare + 1
  | .agg parts => uptoBulkAll parts + 1
  | .iface _ d => uptoBulk d + 1
  | .map entries => uptoBulkEntries entries + 1
  | .held _ => 1
def uptoBulkAll {H : Type} : List (DataW H) → Nat
  | [] => 0
  | d :: r => uptoBulk d + uptoBulkAll r
def uptoBulkEntries {H : Type} : List (Lit × DataW H) → Nat
  | [] => 0
  | x :: r => uptoBulkEntry x + uptoBulkEntries r
def uptoBulkEntry {H : Type} : Lit × DataW H → Nat
  | (.string bytes, d) => bytes.length + uptoBulk d + 1
  | (_, d) => uptoBulk d + 1
 end
def uptoSmall : (H : Type) → List (DataW H) → Bool := fun _ ds => decide (uptoBulkAll ds ≤ 1048576)
def OpenSpec.upto (s : _root_.Go.ChangeSpec) : _root_.Go.OpenSpec := { _root_.Go.OpenSpec.ofChange s with cond := some uptoSmall }

/-- 'wakemanlaw03.ZoneTexts', WHERE WHAT IT READS IS OF BULK AT MOST 1048576: true; the input reads as it did. -/
def zoneTextsUptoRow : OpenClaim := { program := "ytpenjmflkhhdgaa", sum := "4189dd498573a3ab3ee069287c4ab7588467b708b644f9549cbd8dcb97896210", func := "wakeman/wakemanlaw03.ZoneTexts", spec := "zoneTexts", apart := false, narrowed := true }
def ZoneTextsUptoSaid : Prop := zoneTextsUptoRow.holds Try.pinned (OpenSpec.upto zoneTextsSpec)

/-- 'wakemanlaw03.ZoneLocals', WHERE WHAT IT READS IS OF BULK AT MOST 1048576: true; the input reads as it did. -/
def zoneLocalsUptoRow : OpenClaim := { program := "ytpenjmflkhhdgaa", sum := "4189dd498573a3ab3ee069287c4ab7588467b708b644f9549cbd8dcb97896210", func := "wakeman/wakemanlaw03.ZoneLocals", spec := "zoneLocals", apart := false, narrowed := true }
def ZoneLocalsUptoSaid : Prop := zoneLocalsUptoRow.holds Try.pinned (OpenSpec.upto zoneLocalsSpec)

/-- 'wakemanlaw03.ZoneShifts', WHERE WHAT IT READS IS OF BULK AT MOST 1048576: true; the input reads as it did. -/
def zoneShiftsUptoRow : OpenClaim := { program := "ytpenjmflkhhdgaa", sum := "4189dd498573a3ab3ee069287c4ab7588467b708b644f9549cbd8dcb97896210", func := "wakeman/wakemanlaw03.ZoneShifts", spec := "zoneShifts", apart := false, narrowed := true }
def ZoneShiftsUptoSaid : Prop := zoneShiftsUptoRow.holds Try.pinned (OpenSpec.upto zoneShiftsSpec)

/-- 'wakemanlaw03.ZoneSpells', WHERE WHAT IT READS IS OF BULK AT MOST 1048576: true; the input reads as it did. -/
def zoneSpellsUptoRow : OpenClaim := { program := "ytpenjmflkhhdgaa", sum := "4189dd498573a3ab3ee069287c4ab7588467b708b644f9549cbd8dcb97896210", func := "wakeman/wakemanlaw03.ZoneSpells", spec := "zoneSpells", apart := false, narrowed := true }
def ZoneSpellsUptoSaid : Prop := zoneSpellsUptoRow.holds Try.pinned (OpenSpec.upto zoneSpellsSpec)

/-- 'wakemanlaw03.ZoneSames', WHERE WHAT IT READS IS OF BULK AT MOST 1048576: true; the input reads as it did. -/
def zoneSamesUptoRow : OpenClaim := { program := "ytpenjmflkhhdgaa", sum := "4189dd498573a3ab3ee069287c4ab7588467b708b644f9549cbd8dcb97896210", func := "wakeman/wakemanlaw03.ZoneSames", spec := "zoneSames", apart := false, narrowed := true }
def ZoneSamesUptoSaid : Prop := zoneSamesUptoRow.holds Try.pinned (OpenSpec.upto zoneSamesSpec)

/-- 'wakemanlaw03.ZoneDays', WHERE WHAT IT READS IS OF BULK AT MOST 1048576: true; the input reads as it did. -/
def zoneDaysUptoRow : OpenClaim := { program := "ytpenjmflkhhdgaa", sum := "4189dd498573a3ab3ee069287c4ab7588467b708b644f9549cbd8dcb97896210", func := "wakeman/wakemanlaw03.ZoneDays", spec := "zoneDays", apart := false, narrowed := true }
def ZoneDaysUptoSaid : Prop := zoneDaysUptoRow.holds Try.pinned (OpenSpec.upto zoneDaysSpec)

/-- 'wakemanlaw03.ZoneSplits', WHERE WHAT IT READS IS OF BULK AT MOST 1048576: true; the input reads as it did. -/
def zoneSplitsUptoRow : OpenClaim := { program := "ytpenjmflkhhdgaa", sum := "4189dd498573a3ab3ee069287c4ab7588467b708b644f9549cbd8dcb97896210", func := "wakeman/wakemanlaw03.ZoneSplits", spec := "zoneSplits", apart := false, narrowed := true }
def ZoneSplitsUptoSaid : Prop := zoneSplitsUptoRow.holds Try.pinned (OpenSpec.upto zoneSplitsSpec)

/-- 'wakemanlaw03.ZoneBacks', WHERE WHAT IT READS IS OF BULK AT MOST 1048576: true; the input reads as it did. -/
def zoneBacksUptoRow : OpenClaim := { program := "ytpenjmflkhhdgaa", sum := "4189dd498573a3ab3ee069287c4ab7588467b708b644f9549cbd8dcb97896210", func := "wakeman/wakemanlaw03.ZoneBacks", spec := "zoneBacks", apart := false, narrowed := true }
def ZoneBacksUptoSaid : Prop := zoneBacksUptoRow.holds Try.pinned (OpenSpec.upto zoneBacksSpec)

/-- 'wakemanlaw03.ZoneReturns', WHERE WHAT IT READS IS OF BULK AT MOST 1048576: true; the input reads as it did. -/
def zoneReturnsUptoRow : OpenClaim := { program := "ytpenjmflkhhdgaa", sum := "4189dd498573a3ab3ee069287c4ab7588467b708b644f9549cbd8dcb97896210", func := "wakeman/wakemanlaw03.ZoneReturns", spec := "zoneReturns", apart := false, narrowed := true }
def ZoneReturnsUptoSaid : Prop := zoneReturnsUptoRow.holds Try.pinned (OpenSpec.upto zoneReturnsSpec)

/-- 'wakemanlaw03.ZoneEnds', WHERE WHAT IT READS IS OF BULK AT MOST 1048576: true; the input reads as it did. -/
def zoneEndsUptoRow : OpenClaim := { program := "ytpenjmflkhhdgaa", sum := "4189dd498573a3ab3ee069287c4ab7588467b708b644f9549cbd8dcb97896210", func := "wakeman/wakemanlaw03.ZoneEnds", spec := "zoneEnds", apart := false, narrowed := true }
def ZoneEndsUptoSaid : Prop := zoneEndsUptoRow.holds Try.pinned (OpenSpec.upto zoneEndsSpec)

end Rows
end Go.Proofs.Ytpenjmflkhhdgaa
