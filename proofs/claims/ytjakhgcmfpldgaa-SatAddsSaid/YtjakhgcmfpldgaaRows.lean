/-
  No cell of these rows narrows 'for every input' (looked for: loops, veiled, ifaces, maps, wideKeys, modest, calm, conditions, laid).
  DERIVED. THE GIVEN ROWS OF THIS SEAT. 11 by the template 'for every input the law returns true; each argument reads behind the call as it read before'; 0 by the template 'total and deterministic' (their statements: YtjakhgcmfpldgaaTotals.lean).
  GIVEN WITH THE SEED: the statements are not yours to turn. If you find one false, say at which input.
  Laid BY PROGRAM, IN A SANDBOX (cutbox-rows.mjs): the forced cells as the released guide's own fill.sh prints them over the translation 5e1226eca4d41478… (all of the seat's roots in one cut). By AI agents, Wed Nov 11 2026. No macro, syntax, notation, axiom, sorry.
-/
import Derived.Test.YtjakhgcmfpldgaaChecked
import GoSem.Claim
import GoSem.ClaimJoined
import GoSem.ClaimMapViews
import Derived.JoinedTies
import Derived.KernelRfl
namespace Go.Proofs.Ytjakhgcmfpldgaa
/- THE CELL 'sum', in the pinned program and in every row, IS THE sha256 OF THE DUMP (.gsa) THAT YtjakhgcmfpldgaaProg.lean LOADS. Nothing in Lean hashes anything: it is a label: what it is worth is what the hold of that sum in a sandbox is worth. -/
noncomputable def Try.pinned : Pinned := { name := "ytjakhgcmfpldgaa", sum := "5e1226eca4d41478282100ac1516a894d0b25f623891e9f886e1e8e3fc745030", checked := Try.checked }
namespace Rows
def none {H : Type} : Left H := { results := [], args := [] }

/-- 'wakemanlaw01.SatSums': WHATEVER THE INPUT: true; the input reads as it did. -/
def satSumsSpec : ChangeSpec := { name := "satSums", fn := fun _ => fun
  | [d1, d2] => { results := [.lit (.bool true)], args := [d1, d2] }
  | _ => none }
def satSumsRow : OpenClaim := { program := "ytjakhgcmfpldgaa", sum := "5e1226eca4d41478282100ac1516a894d0b25f623891e9f886e1e8e3fc745030", func := "wakeman/wakemanlaw01.SatSums", spec := "satSums", apart := false }
def SatSumsSaid : Prop := satSumsRow.holds Try.pinned (OpenSpec.ofChange satSumsSpec)

/-- ITS FALSE NEIGHBOUR: 'it returns false'. Refute it at one input. -/
def satSumsWrong : ChangeSpec := { name := "satSums", fn := fun _ => fun
  | [d1, d2] => { results := [.lit (.bool false)], args := [d1, d2] }
  | _ => none }
def SatSumsWrongFalsely : Prop := satSumsRow.holds Try.pinned (OpenSpec.ofChange satSumsWrong)

/-- 'wakemanlaw01.SatPowers': WHATEVER THE INPUT: true; the input reads as it did. -/
def satPowersSpec : ChangeSpec := { name := "satPowers", fn := fun _ => fun
  | [d1, d2] => { results := [.lit (.bool true)], args := [d1, d2] }
  | _ => none }
def satPowersRow : OpenClaim := { program := "ytjakhgcmfpldgaa", sum := "5e1226eca4d41478282100ac1516a894d0b25f623891e9f886e1e8e3fc745030", func := "wakeman/wakemanlaw01.SatPowers", spec := "satPowers", apart := false }
def SatPowersSaid : Prop := satPowersRow.holds Try.pinned (OpenSpec.ofChange satPowersSpec)

/-- ITS FALSE NEIGHBOUR: 'it returns false'. Refute it at one input. -/
def satPowersWrong : ChangeSpec := { name := "satPowers", fn := fun _ => fun
  | [d1, d2] => { results := [.lit (.bool false)], args := [d1, d2] }
  | _ => none }
def SatPowersWrongFalsely : Prop := satPowersRow.holds Try.pinned (OpenSpec.ofChange satPowersWrong)

/-- 'wakemanlaw01.SatTotals': WHATEVER THE INPUT: true; the input reads as it did. -/
def satTotalsSpec : ChangeSpec := { name := "satTotals", fn := fun _ => fun
  | [d] => { results := [.lit (.bool true)], args := [d] }
  | _ => none }
def satTotalsRow : OpenClaim := { program := "ytjakhgcmfpldgaa", sum := "5e1226eca4d41478282100ac1516a894d0b25f623891e9f886e1e8e3fc745030", func := "wakeman/wakemanlaw01.SatTotals", spec := "satTotals", apart := false }
def SatTotalsSaid : Prop := satTotalsRow.holds Try.pinned (OpenSpec.ofChange satTotalsSpec)

/-- ITS FALSE NEIGHBOUR: 'it returns false'. Refute it at one input. -/
def satTotalsWrong : ChangeSpec := { name := "satTotals", fn := fun _ => fun
  | [d] => { results := [.lit (.bool false)], args := [d] }
  | _ => none }
def SatTotalsWrongFalsely : Prop := satTotalsRow.holds Try.pinned (OpenSpec.ofChange satTotalsWrong)

/-- 'wakemanlaw01.SatOrder': WHATEVER THE INPUT: true; the input reads as it did. -/
def satOrderSpec : ChangeSpec := { name := "satOrder", fn := fun _ => fun
  | [d1, d2, d3] => { results := [.lit (.bool true)], args := [d1, d2, d3] }
  | _ => none }
def satOrderRow : OpenClaim := { program := "ytjakhgcmfpldgaa", sum := "5e1226eca4d41478282100ac1516a894d0b25f623891e9f886e1e8e3fc745030", func := "wakeman/wakemanlaw01.SatOrder", spec := "satOrder", apart := false }
def SatOrderSaid : Prop := satOrderRow.holds Try.pinned (OpenSpec.ofChange satOrderSpec)

/-- ITS FALSE NEIGHBOUR: 'it returns false'. Refute it at one input. -/
def satOrderWrong : ChangeSpec := { name := "satOrder", fn := fun _ => fun
  | [d1, d2, d3] => { results := [.lit (.bool false)], args := [d1, d2, d3] }
  | _ => none }
def SatOrderWrongFalsely : Prop := satOrderRow.holds Try.pinned (OpenSpec.ofChange satOrderWrong)

/-- 'wakemanlaw01.SatGrows': WHATEVER THE INPUT: true; the input reads as it did. -/
def satGrowsSpec : ChangeSpec := { name := "satGrows", fn := fun _ => fun
  | [d1, d2, d3] => { results := [.lit (.bool true)], args := [d1, d2, d3] }
  | _ => none }
def satGrowsRow : OpenClaim := { program := "ytjakhgcmfpldgaa", sum := "5e1226eca4d41478282100ac1516a894d0b25f623891e9f886e1e8e3fc745030", func := "wakeman/wakemanlaw01.SatGrows", spec := "satGrows", apart := false }
def SatGrowsSaid : Prop := satGrowsRow.holds Try.pinned (OpenSpec.ofChange satGrowsSpec)

/-- ITS FALSE NEIGHBOUR: 'it returns false'. Refute it at one input. -/
def satGrowsWrong : ChangeSpec := { name := "satGrows", fn := fun _ => fun
  | [d1, d2, d3] => { results := [.lit (.bool false)], args := [d1, d2, d3] }
  | _ => none }
def SatGrowsWrongFalsely : Prop := satGrowsRow.holds Try.pinned (OpenSpec.ofChange satGrowsWrong)

/-- 'wakemanlaw01.SatRounds': WHATEVER THE INPUT: true; the input reads as it did. -/
def satRoundsSpec : ChangeSpec := { name := "satRounds", fn := fun _ => fun
  | [d1, d2] => { results := [.lit (.bool true)], args := [d1, d2] }
  | _ => none }
def satRoundsRow : OpenClaim := { program := "ytjakhgcmfpldgaa", sum := "5e1226eca4d41478282100ac1516a894d0b25f623891e9f886e1e8e3fc745030", func := "wakeman/wakemanlaw01.SatRounds", spec := "satRounds", apart := false }
def SatRoundsSaid : Prop := satRoundsRow.holds Try.pinned (OpenSpec.ofChange satRoundsSpec)

/-- ITS FALSE NEIGHBOUR: 'it returns false'. Refute it at one input. -/
def satRoundsWrong : ChangeSpec := { name := "satRounds", fn := fun _ => fun
  | [d1, d2] => { results := [.lit (.bool false)], args := [d1, d2] }
  | _ => none }
def SatRoundsWrongFalsely : Prop := satRoundsRow.holds Try.pinned (OpenSpec.ofChange satRoundsWrong)

/-- 'wakemanlaw01.SatAdds': WHATEVER THE INPUT: true; the input reads as it did. -/
def satAddsSpec : ChangeSpec := { name := "satAdds", fn := fun _ => fun
  | [d] => { results := [.lit (.bool true)], args := [d] }
  | _ => none }
def satAddsRow : OpenClaim := { program := "ytjakhgcmfpldgaa", sum := "5e1226eca4d41478282100ac1516a894d0b25f623891e9f886e1e8e3fc745030", func := "wakeman/wakemanlaw01.SatAdds", spec := "satAdds", apart := false }
def SatAddsSaid : Prop := satAddsRow.holds Try.pinned (OpenSpec.ofChange satAddsSpec)

/-- ITS FALSE NEIGHBOUR: 'it returns false'. Refute it at one input. -/
def satAddsWrong : ChangeSpec := { name := "satAdds", fn := fun _ => fun
  | [d] => { results := [.lit (.bool false)], args := [d] }
  | _ => none }
def SatAddsWrongFalsely : Prop := satAddsRow.holds Try.pinned (OpenSpec.ofChange satAddsWrong)

/-- 'wakemanlaw01.SatQuotients': WHATEVER THE INPUT: true; the input reads as it did. -/
def satQuotientsSpec : ChangeSpec := { name := "satQuotients", fn := fun _ => fun
  | [d1, d2] => { results := [.lit (.bool true)], args := [d1, d2] }
  | _ => none }
def satQuotientsRow : OpenClaim := { program := "ytjakhgcmfpldgaa", sum := "5e1226eca4d41478282100ac1516a894d0b25f623891e9f886e1e8e3fc745030", func := "wakeman/wakemanlaw01.SatQuotients", spec := "satQuotients", apart := false }
def SatQuotientsSaid : Prop := satQuotientsRow.holds Try.pinned (OpenSpec.ofChange satQuotientsSpec)

/-- ITS FALSE NEIGHBOUR: 'it returns false'. Refute it at one input. -/
def satQuotientsWrong : ChangeSpec := { name := "satQuotients", fn := fun _ => fun
  | [d1, d2] => { results := [.lit (.bool false)], args := [d1, d2] }
  | _ => none }
def SatQuotientsWrongFalsely : Prop := satQuotientsRow.holds Try.pinned (OpenSpec.ofChange satQuotientsWrong)

/-- 'wakemanlaw01.SatProducts': WHATEVER THE INPUT: true; the input reads as it did. -/
def satProductsSpec : ChangeSpec := { name := "satProducts", fn := fun _ => fun
  | [d1, d2] => { results := [.lit (.bool true)], args := [d1, d2] }
  | _ => none }
def satProductsRow : OpenClaim := { program := "ytjakhgcmfpldgaa", sum := "5e1226eca4d41478282100ac1516a894d0b25f623891e9f886e1e8e3fc745030", func := "wakeman/wakemanlaw01.SatProducts", spec := "satProducts", apart := false }
def SatProductsSaid : Prop := satProductsRow.holds Try.pinned (OpenSpec.ofChange satProductsSpec)

/-- ITS FALSE NEIGHBOUR: 'it returns false'. Refute it at one input. -/
def satProductsWrong : ChangeSpec := { name := "satProducts", fn := fun _ => fun
  | [d1, d2] => { results := [.lit (.bool false)], args := [d1, d2] }
  | _ => none }
def SatProductsWrongFalsely : Prop := satProductsRow.holds Try.pinned (OpenSpec.ofChange satProductsWrong)

/-- 'wakemanlaw01.SatSmall': WHATEVER THE INPUT: true; the input reads as it did. -/
def satSmallSpec : ChangeSpec := { name := "satSmall", fn := fun _ => fun
  | [d1, d2] => { results := [.lit (.bool true)], args := [d1, d2] }
  | _ => none }
def satSmallRow : OpenClaim := { program := "ytjakhgcmfpldgaa", sum := "5e1226eca4d41478282100ac1516a894d0b25f623891e9f886e1e8e3fc745030", func := "wakeman/wakemanlaw01.SatSmall", spec := "satSmall", apart := false }
def SatSmallSaid : Prop := satSmallRow.holds Try.pinned (OpenSpec.ofChange satSmallSpec)

/-- ITS FALSE NEIGHBOUR: 'it returns false'. Refute it at one input. -/
def satSmallWrong : ChangeSpec := { name := "satSmall", fn := fun _ => fun
  | [d1, d2] => { results := [.lit (.bool false)], args := [d1, d2] }
  | _ => none }
def SatSmallWrongFalsely : Prop := satSmallRow.holds Try.pinned (OpenSpec.ofChange satSmallWrong)

/-- 'wakemanlaw01.SatDivides': WHATEVER THE INPUT: true; the input reads as it did. -/
def satDividesSpec : ChangeSpec := { name := "satDivides", fn := fun _ => fun
  | [d1, d2] => { results := [.lit (.bool true)], args := [d1, d2] }
  | _ => none }
def satDividesRow : OpenClaim := { program := "ytjakhgcmfpldgaa", sum := "5e1226eca4d41478282100ac1516a894d0b25f623891e9f886e1e8e3fc745030", func := "wakeman/wakemanlaw01.SatDivides", spec := "satDivides", apart := false }
def SatDividesSaid : Prop := satDividesRow.holds Try.pinned (OpenSpec.ofChange satDividesSpec)

/-- ITS FALSE NEIGHBOUR: 'it returns false'. Refute it at one input. -/
def satDividesWrong : ChangeSpec := { name := "satDivides", fn := fun _ => fun
  | [d1, d2] => { results := [.lit (.bool false)], args := [d1, d2] }
  | _ => none }
def SatDividesWrongFalsely : Prop := satDividesRow.holds Try.pinned (OpenSpec.ofChange satDividesWrong)

/- THE SECOND FORM. 'bulk': how many values and letters a reading holds, each counted each time it is reached (what is shared counts as often as it is met; a slice's spare places count too). A statement '..UptoSaid' is the law's where the arguments, and the package variables that the reading takes, are together of bulk at most 1048576: NARROWER than '..Said'. Prove '..Said' where nothing that the law and all that it calls make is longer than what came in: it says more and counts as full. Else prove '..UptoSaid'. A law counts once. -/
mutual
def uptoBulk {H : Type} : DataW H → Nat
  | .lit (.string bytes) => bytes.length + 1
  | .lit _ => 1
  | .nil => 1
  | .ptr d => uptoBulk d + 1
  | .slice elems spare => uptoBulkAll elems + uptoBulkAll spare + 1
  | .agg parts => uptoBulkAll parts + 1
  | .iface _ d => uptoBulk d + 1
  | .map entries => uptoBulkEntries entries + 1
  | .held _ => 1
def uptoBulkAll {H : Type} : List (DataW H) → Nat
  | [] => 0
  | d :: r => uptoBulk d + uptoBulkAll r
def uptoBulkEntries {H : Type} : List (Lit × DataW H) → Nat
  | [] => 0
  | x :: r => uptoBulkEntry x + uptoBulkEntries r
def uptoBulkEntry {H : Type} : Lit × DataW H → Nat
  | (.string bytes, d) => bytes.length + uptoBulk d + 1
  | (_, d) => uptoBulk d + 1
 end
def uptoSmall : (H : Type) → List (DataW H) → Bool := fun _ ds => decide (uptoBulkAll ds ≤ 1048576)
def OpenSpec.upto (s : _root_.Go.ChangeSpec) : _root_.Go.OpenSpec := { _root_.Go.OpenSpec.ofChange s with cond := some uptoSmall }

/-- 'wakemanlaw01.SatSums', WHERE WHAT IT READS IS OF BULK AT MOST 1048576: true; the input reads as it did. -/
def satSumsUptoRow : OpenClaim := { program := "ytjakhgcmfpldgaa", sum := "5e1226eca4d41478282100ac1516a894d0b25f623891e9f886e1e8e3fc745030", func := "wakeman/wakemanlaw01.SatSums", spec := "satSums", apart := false, narrowed := true }
def SatSumsUptoSaid : Prop := satSumsUptoRow.holds Try.pinned (OpenSpec.upto satSumsSpec)

/-- 'wakemanlaw01.SatPowers', WHERE WHAT IT READS IS OF BULK AT MOST 1048576: true; the input reads as it did. -/
def satPowersUptoRow : OpenClaim := { program := "ytjakhgcmfpldgaa", sum := "5e1226eca4d41478282100ac1516a894d0b25f623891e9f886e1e8e3fc745030", func := "wakeman/wakemanlaw01.SatPowers", spec := "satPowers", apart := false, narrowed := true }
def SatPowersUptoSaid : Prop := satPowersUptoRow.holds Try.pinned (OpenSpec.upto satPowersSpec)

/-- 'wakemanlaw01.SatTotals', WHERE WHAT IT READS IS OF BULK AT MOST 1048576: true; the input reads as it did. -/
def satTotalsUptoRow : OpenClaim := { program := "ytjakhgcmfpldgaa", sum := "5e1226eca4d41478282100ac1516a894d0b25f623891e9f886e1e8e3fc745030", func := "wakeman/wakemanlaw01.SatTotals", spec := "satTotals", apart := false, narrowed := true }
def SatTotalsUptoSaid : Prop := satTotalsUptoRow.holds Try.pinned (OpenSpec.upto satTotalsSpec)

/-- 'wakemanlaw01.SatOrder', WHERE WHAT IT READS IS OF BULK AT MOST 1048576: true; the input reads as it did. -/
def satOrderUptoRow : OpenClaim := { program := "ytjakhgcmfpldgaa", sum := "5e1226eca4d41478282100ac1516a894d0b25f623891e9f886e1e8e3fc745030", func := "wakeman/wakemanlaw01.SatOrder", spec := "satOrder", apart := false, narrowed := true }
def SatOrderUptoSaid : Prop := satOrderUptoRow.holds Try.pinned (OpenSpec.upto satOrderSpec)

/-- 'wakemanlaw01.SatGrows', WHERE WHAT IT READS IS OF BULK AT MOST 1048576: true; the input reads as it did. -/
def satGrowsUptoRow : OpenClaim := { program := "ytjakhgcmfpldgaa", sum := "5e1226eca4d41478282100ac1516a894d0b25f623891e9f886e1e8e3fc745030", func := "wakeman/wakemanlaw01.SatGrows", spec := "satGrows", apart := false, narrowed := true }
def SatGrowsUptoSaid : Prop := satGrowsUptoRow.holds Try.pinned (OpenSpec.upto satGrowsSpec)

/-- 'wakemanlaw01.SatRounds', WHERE WHAT IT READS IS OF BULK AT MOST 1048576: true; the input reads as it did. -/
def satRoundsUptoRow : OpenClaim := { program := "ytjakhgcmfpldgaa", sum := "5e1226eca4d41478282100ac1516a894d0b25f623891e9f886e1e8e3fc745030", func := "wakeman/wakemanlaw01.SatRounds", spec := "satRounds", apart := false, narrowed := true }
def SatRoundsUptoSaid : Prop := satRoundsUptoRow.holds Try.pinned (OpenSpec.upto satRoundsSpec)

/-- 'wakemanlaw01.SatAdds', WHERE WHAT IT READS IS OF BULK AT MOST 1048576: true; the input reads as it did. -/
def satAddsUptoRow : OpenClaim := { program := "ytjakhgcmfpldgaa", sum := "5e1226eca4d41478282100ac1516a894d0b25f623891e9f886e1e8e3fc745030", func := "wakeman/wakemanlaw01.SatAdds", spec := "satAdds", apart := false, narrowed := true }
def SatAddsUptoSaid : Prop := satAddsUptoRow.holds Try.pinned (OpenSpec.upto satAddsSpec)

/-- 'wakemanlaw01.SatQuotients', WHERE WHAT IT READS IS OF BULK AT MOST 1048576: true; the input reads as it did. -/
def satQuotientsUptoRow : OpenClaim := { program := "ytjakhgcmfpldgaa", sum := "5e1226eca4d41478282100ac1516a894d0b25f623891e9f886e1e8e3fc745030", func := "wakeman/wakemanlaw01.SatQuotients", spec := "satQuotients", apart := false, narrowed := true }
def SatQuotientsUptoSaid : Prop := satQuotientsUptoRow.holds Try.pinned (OpenSpec.upto satQuotientsSpec)

/-- 'wakemanlaw01.SatProducts', WHERE WHAT IT READS IS OF BULK AT MOST 1048576: true; the input reads as it did. -/
def satProductsUptoRow : OpenClaim := { program := "ytjakhgcmfpldgaa", sum := "5e1226eca4d41478282100ac1516a894d0b25f623891e9f886e1e8e3fc745030", func := "wakeman/wakemanlaw01.SatProducts", spec := "satProducts", apart := false, narrowed := true }
def SatProductsUptoSaid : Prop := satProductsUptoRow.holds Try.pinned (OpenSpec.upto satProductsSpec)

/-- 'wakemanlaw01.SatSmall', WHERE WHAT IT READS IS OF BULK AT MOST 1048576: true; the input reads as it did. -/
def satSmallUptoRow : OpenClaim := { program := "ytjakhgcmfpldgaa", sum := "5e1226eca4d41478282100ac1516a894d0b25f623891e9f886e1e8e3fc745030", func := "wakeman/wakemanlaw01.SatSmall", spec := "satSmall", apart := false, narrowed := true }
def SatSmallUptoSaid : Prop := satSmallUptoRow.holds Try.pinned (OpenSpec.upto satSmallSpec)

/-- 'wakemanlaw01.SatDivides', WHERE WHAT IT READS IS OF BULK AT MOST 1048576: true; the input reads as it did. -/
def satDividesUptoRow : OpenClaim := { program := "ytjakhgcmfpldgaa", sum := "5e1226eca4d41478282100ac1516a894d0b25f623891e9f886e1e8e3fc745030", func := "wakeman/wakemanlaw01.SatDivides", spec := "satDivides", apart := false, narrowed := true }
def SatDividesUptoSaid : Prop := satDividesUptoRow.holds Try.pinned (OpenSpec.upto satDividesSpec)

end Rows
end Go.Proofs.Ytjakhgcmfpldgaa
