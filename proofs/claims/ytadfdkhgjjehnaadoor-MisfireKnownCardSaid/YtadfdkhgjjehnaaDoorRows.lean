/-
  NARROWER THAN 'FOR EVERY INPUT', by the rows' own cells (each row's printed sentence says how): MisfireKeeps: laid · MisfireOrders: laid · MisfireParts: laid · MisfireLast: laid · MisfireMerges: laid · MisfireJoins: laid · MisfireTwice: laid · MisfireTexts: laid · MisfireBack: laid · MisfireKnown: laid.
  DERIVED. THE GIVEN ROWS OF THIS SEAT. 10 by the template 'for every input the law returns true; each argument reads behind the call as it read before'; 0 by the template 'total and deterministic' (their statements: YtadfdkhgjjehnaaDoorTotals.lean).
  GIVEN WITH THE SEED: the statements are not yours to turn. If you find one false, say at which input.
  Laid BY PROGRAM, IN A SANDBOX (cutbox-rows.mjs): the forced cells as the released guide's own fill.sh prints them over the translation 0e95cd738731869d… (all of the seat's roots in one cut). By AI agents, Wed Nov 11 2026. No macro, syntax, notation, axiom, sorry.
-/
import Derived.Test.YtadfdkhgjjehnaaDoorChecked
import GoSem.Claim
import GoSem.ClaimJoined
import GoSem.ClaimMapViews
import Derived.JoinedTies
import Derived.KernelRfl
namespace Go.Proofs.YtadfdkhgjjehnaaDoor
/- THE CELL 'sum', in the pinned program and in every row, IS THE sha256 OF THE DUMP (.gsa) THAT YtadfdkhgjjehnaaDoorProg.lean LOADS. Nothing in Lean hashes anything: it is a label: what it is worth is what the hold of that sum in a sandbox is worth. -/
noncomputable def Tryd.pinned : Pinned := { name := "ytadfdkhgjjehnaadoor", sum := "0e95cd738731869ddc2be85fad9d2013c00b0e42265de39621e4d491c8a33e39", checked := Tryd.checked }
namespace Rows
def none {H : Type} : Left H := { results := [], args := [] }

/- WHAT THE LISTED PACKAGE-LEVEL VARIABLES READ AS WHEN THE CALL BEGINS. Each datum BY PROGRAM (the guide's laid-datum.mjs) off the statement by which the dump's own 'gosem.cut.vars' lays the variable. In a bare row this is a premise. The card (YtadfdkhgjjehnaaDoorCards.lean) ties it to the program's text. -/
def laid_math_bits_deBruijn32tab {H : Type} : DataW H := .agg [.lit (.int .u8 0), .lit (.int .u8 1), .lit (.int .u8 28), .lit (.int .u8 2), .lit (.int .u8 29), .lit (.int .u8 14), .lit (.int .u8 24), .lit (.int .u8 3), .lit (.int .u8 30), .lit (.int .u8 22), .lit (.int .u8 20), .lit (.int .u8 15), .lit (.int .u8 25), .lit (.int .u8 17), .lit (.int .u8 4), .lit (.int .u8 8), .lit (.int .u8 31), .lit (.int .u8 27), .lit (.int .u8 13), .lit (.int .u8 23), .lit (.int .u8 21), .lit (.int .u8 19), .lit (.int .u8 16), .lit (.int .u8 7), .lit (.int .u8 26), .lit (.int .u8 12), .lit (.int .u8 18), .lit (.int .u8 6), .lit (.int .u8 11), .lit (.int .u8 5), .lit (.int .u8 10), .lit (.int .u8 9)]
def laid_math_bits_deBruijn64tab {H : Type} : DataW H := .agg [.lit (.int .u8 0), .lit (.int .u8 1), .lit (.int .u8 56), .lit (.int .u8 2), .lit (.int .u8 57), .lit (.int .u8 49), .lit (.int .u8 28), .lit (.int .u8 3), .lit (.int .u8 61), .lit (.int .u8 58), .lit (.int .u8 42), .lit (.int .u8 50), .lit (.int .u8 38), .lit (.int .u8 29), .lit (.int .u8 17), .lit (.int .u8 4), .lit (.int .u8 62), .lit (.int .u8 47), .lit (.int .u8 59), .lit (.int .u8 36), .lit (.int .u8 45), .lit (.int .u8 43), .lit (.int .u8 51), .lit (.int .u8 22), .lit (.int .u8 53), .lit (.int .u8 39), .lit (.int .u8 33), .lit (.int .u8 30), .lit (.int .u8 24), .lit (.int .u8 18), .lit (.int .u8 12), .lit (.int .u8 5), .lit (.int .u8 63), .lit (.int .u8 55), .lit (.int .u8 48), .lit (.int .u8 27), .lit (.int .u8 60), .lit (.int .u8 41), .lit (.int .u8 37), .lit (.int .u8 16), .lit (.int .u8 46), .lit (.int .u8 35), .lit (.int .u8 44), .lit (.int .u8 21), .lit (.int .u8 52), .lit (.int .u8 32), .lit (.int .u8 23), .lit (.int .u8 11), .lit (.int .u8 54), .lit (.int .u8 26), .lit (.int .u8 40), .lit (.int .u8 15), .lit (.int .u8 34), .lit (.int .u8 20), .lit (.int .u8 31), .lit (.int .u8 10), .lit (.int .u8 25), .lit (.int .u8 14), .lit (.int .u8 19), .lit (.int .u8 9), .lit (.int .u8 13), .lit (.int .u8 8), .lit (.int .u8 7), .lit (.int .u8 6)]
def laid_internal_strconv_uint64pow10 {H : Type} : DataW H := .agg [.lit (.int .u64 1), .lit (.int .u64 10), .lit (.int .u64 100), .lit (.int .u64 1000), .lit (.int .u64 10000), .lit (.int .u64 100000), .lit (.int .u64 1000000), .lit (.int .u64 10000000), .lit (.int .u64 100000000), .lit (.int .u64 1000000000), .lit (.int .u64 10000000000), .lit (.int .u64 100000000000), .lit (.int .u64 1000000000000), .lit (.int .u64 10000000000000), .lit (.int .u64 100000000000000), .lit (.int .u64 1000000000000000), .lit (.int .u64 10000000000000000), .lit (.int .u64 100000000000000000), .lit (.int .u64 1000000000000000000), .lit (.int .u64 10000000000000000000)]
def laid_strconv_ErrRange {H : Type} : DataW H := .iface "*errors.errorString" (.ptr (.agg [.lit (.string [118, 97, 108, 117, 101, 32, 111, 117, 116, 32, 111, 102, 32, 114, 97, 110, 103, 101])]))
def laid_strconv_ErrSyntax {H : Type} : DataW H := .iface "*errors.errorString" (.ptr (.agg [.lit (.string [105, 110, 118, 97, 108, 105, 100, 32, 115, 121, 110, 116, 97, 120])]))

/-- 'wakemanlaw32.MisfireKeeps': WHATEVER THE INPUT: true; the input reads as it did. -/
def misfireKeepsSpec : ChangeSpec := { name := "misfireKeeps", fn := fun _ => fun
  | [d1, d2, d3, d4] => { results := [.lit (.bool true)], args := [d1, d2, d3, d4] }
  | _ => none }
def misfireKeepsRow : OpenClaim := { program := "ytadfdkhgjjehnaadoor", sum := "0e95cd738731869ddc2be85fad9d2013c00b0e42265de39621e4d491c8a33e39", func := "wakeman/wakemanlaw32.MisfireKeeps", spec := "misfireKeeps", unfollowed := true, recurses := true, named := ["internal/strconv.uint64pow10", "math/bits.deBruijn32tab", "math/bits.deBruijn64tab"], apart := false, laid := [("math/bits.deBruijn32tab", laid_math_bits_deBruijn32tab), ("math/bits.deBruijn64tab", laid_math_bits_deBruijn64tab), ("internal/strconv.uint64pow10", laid_internal_strconv_uint64pow10)] }
def MisfireKeepsSaid : Prop := misfireKeepsRow.holds Tryd.pinned (OpenSpec.ofChange misfireKeepsSpec)

/-- ITS FALSE NEIGHBOUR: 'it returns false'. Refute it at one input. -/
def misfireKeepsWrong : ChangeSpec := { name := "misfireKeeps", fn := fun _ => fun
  | [d1, d2, d3, d4] => { results := [.lit (.bool false)], args := [d1, d2, d3, d4] }
  | _ => none }
def MisfireKeepsWrongFalsely : Prop := misfireKeepsRow.holds Tryd.pinned (OpenSpec.ofChange misfireKeepsWrong)

/-- 'wakemanlaw32.MisfireOrders': WHATEVER THE INPUT: true; the input reads as it did. -/
def misfireOrdersSpec : ChangeSpec := { name := "misfireOrders", fn := fun _ => fun
  | [d] => { results := [.lit (.bool true)], args := [d] }
  | _ => none }
def misfireOrdersRow : OpenClaim := { program := "ytadfdkhgjjehnaadoor", sum := "0e95cd738731869ddc2be85fad9d2013c00b0e42265de39621e4d491c8a33e39", func := "wakeman/wakemanlaw32.MisfireOrders", spec := "misfireOrders", unfollowed := true, recurses := true, named := ["internal/strconv.uint64pow10", "math/bits.deBruijn32tab", "math/bits.deBruijn64tab"], apart := false, laid := [("math/bits.deBruijn32tab", laid_math_bits_deBruijn32tab), ("math/bits.deBruijn64tab", laid_math_bits_deBruijn64tab), ("internal/strconv.uint64pow10", laid_internal_strconv_uint64pow10)] }
def MisfireOrdersSaid : Prop := misfireOrdersRow.holds Tryd.pinned (OpenSpec.ofChange misfireOrdersSpec)

/-- ITS FALSE NEIGHBOUR: 'it returns false'. Refute it at one input. -/
def misfireOrdersWrong : ChangeSpec := { name := "misfireOrders", fn := fun _ => fun
  | [d] => { results := [.lit (.bool false)], args := [d] }
  | _ => none }
def MisfireOrdersWrongFalsely : Prop := misfireOrdersRow.holds Tryd.pinned (OpenSpec.ofChange misfireOrdersWrong)

/-- 'wakemanlaw32.MisfireParts': WHATEVER THE INPUT: true; the input reads as it did. -/
def misfirePartsSpec : ChangeSpec := { name := "misfireParts", fn := fun _ => fun
  | [d1, d2, d3] => { results := [.lit (.bool true)], args := [d1, d2, d3] }
  | _ => none }
def misfirePartsRow : OpenClaim := { program := "ytadfdkhgjjehnaadoor", sum := "0e95cd738731869ddc2be85fad9d2013c00b0e42265de39621e4d491c8a33e39", func := "wakeman/wakemanlaw32.MisfireParts", spec := "misfireParts", unfollowed := true, recurses := true, named := ["internal/strconv.uint64pow10", "math/bits.deBruijn32tab", "math/bits.deBruijn64tab"], apart := false, laid := [("math/bits.deBruijn32tab", laid_math_bits_deBruijn32tab), ("math/bits.deBruijn64tab", laid_math_bits_deBruijn64tab), ("internal/strconv.uint64pow10", laid_internal_strconv_uint64pow10)] }
def MisfirePartsSaid : Prop := misfirePartsRow.holds Tryd.pinned (OpenSpec.ofChange misfirePartsSpec)

/-- ITS FALSE NEIGHBOUR: 'it returns false'. Refute it at one input. -/
def misfirePartsWrong : ChangeSpec := { name := "misfireParts", fn := fun _ => fun
  | [d1, d2, d3] => { results := [.lit (.bool false)], args := [d1, d2, d3] }
  | _ => none }
def MisfirePartsWrongFalsely : Prop := misfirePartsRow.holds Tryd.pinned (OpenSpec.ofChange misfirePartsWrong)

/-- 'wakemanlaw32.MisfireLast': WHATEVER THE INPUT: true; the input reads as it did. -/
def misfireLastSpec : ChangeSpec := { name := "misfireLast", fn := fun _ => fun
  | [d1, d2] => { results := [.lit (.bool true)], args := [d1, d2] }
  | _ => none }
def misfireLastRow : OpenClaim := { program := "ytadfdkhgjjehnaadoor", sum := "0e95cd738731869ddc2be85fad9d2013c00b0e42265de39621e4d491c8a33e39", func := "wakeman/wakemanlaw32.MisfireLast", spec := "misfireLast", unfollowed := true, recurses := true, named := ["internal/strconv.uint64pow10", "math/bits.deBruijn32tab", "math/bits.deBruijn64tab"], apart := false, laid := [("math/bits.deBruijn32tab", laid_math_bits_deBruijn32tab), ("math/bits.deBruijn64tab", laid_math_bits_deBruijn64tab), ("internal/strconv.uint64pow10", laid_internal_strconv_uint64pow10)] }
def MisfireLastSaid : Prop := misfireLastRow.holds Tryd.pinned (OpenSpec.ofChange misfireLastSpec)

/-- ITS FALSE NEIGHBOUR: 'it returns false'. Refute it at one input. -/
def misfireLastWrong : ChangeSpec := { name := "misfireLast", fn := fun _ => fun
  | [d1, d2] => { results := [.lit (.bool false)], args := [d1, d2] }
  | _ => none }
def MisfireLastWrongFalsely : Prop := misfireLastRow.holds Tryd.pinned (OpenSpec.ofChange misfireLastWrong)

/-- 'wakemanlaw32.MisfireMerges': WHATEVER THE INPUT: true; the input reads as it did. -/
def misfireMergesSpec : ChangeSpec := { name := "misfireMerges", fn := fun _ => fun
  | [d] => { results := [.lit (.bool true)], args := [d] }
  | _ => none }
def misfireMergesRow : OpenClaim := { program := "ytadfdkhgjjehnaadoor", sum := "0e95cd738731869ddc2be85fad9d2013c00b0e42265de39621e4d491c8a33e39", func := "wakeman/wakemanlaw32.MisfireMerges", spec := "misfireMerges", unfollowed := true, recurses := true, named := ["internal/strconv.uint64pow10", "math/bits.deBruijn32tab", "math/bits.deBruijn64tab"], apart := false, laid := [("math/bits.deBruijn32tab", laid_math_bits_deBruijn32tab), ("math/bits.deBruijn64tab", laid_math_bits_deBruijn64tab), ("internal/strconv.uint64pow10", laid_internal_strconv_uint64pow10)] }
def MisfireMergesSaid : Prop := misfireMergesRow.holds Tryd.pinned (OpenSpec.ofChange misfireMergesSpec)

/-- ITS FALSE NEIGHBOUR: 'it returns false'. Refute it at one input. -/
def misfireMergesWrong : ChangeSpec := { name := "misfireMerges", fn := fun _ => fun
  | [d] => { results := [.lit (.bool false)], args := [d] }
  | _ => none }
def MisfireMergesWrongFalsely : Prop := misfireMergesRow.holds Tryd.pinned (OpenSpec.ofChange misfireMergesWrong)

/-- 'wakemanlaw32.MisfireJoins': WHATEVER THE INPUT: true; the input reads as it did. -/
def misfireJoinsSpec : ChangeSpec := { name := "misfireJoins", fn := fun _ => fun
  | [d1, d2, d3, d4] => { results := [.lit (.bool true)], args := [d1, d2, d3, d4] }
  | _ => none }
def misfireJoinsRow : OpenClaim := { program := "ytadfdkhgjjehnaadoor", sum := "0e95cd738731869ddc2be85fad9d2013c00b0e42265de39621e4d491c8a33e39", func := "wakeman/wakemanlaw32.MisfireJoins", spec := "misfireJoins", unfollowed := true, recurses := true, named := ["internal/strconv.uint64pow10", "math/bits.deBruijn32tab", "math/bits.deBruijn64tab"], apart := false, laid := [("math/bits.deBruijn32tab", laid_math_bits_deBruijn32tab), ("math/bits.deBruijn64tab", laid_math_bits_deBruijn64tab), ("internal/strconv.uint64pow10", laid_internal_strconv_uint64pow10)] }
def MisfireJoinsSaid : Prop := misfireJoinsRow.holds Tryd.pinned (OpenSpec.ofChange misfireJoinsSpec)

/-- ITS FALSE NEIGHBOUR: 'it returns false'. Refute it at one input. -/
def misfireJoinsWrong : ChangeSpec := { name := "misfireJoins", fn := fun _ => fun
  | [d1, d2, d3, d4] => { results := [.lit (.bool false)], args := [d1, d2, d3, d4] }
  | _ => none }
def MisfireJoinsWrongFalsely : Prop := misfireJoinsRow.holds Tryd.pinned (OpenSpec.ofChange misfireJoinsWrong)

/-- 'wakemanlaw32.MisfireTwice': WHATEVER THE INPUT: true; the input reads as it did. -/
def misfireTwiceSpec : ChangeSpec := { name := "misfireTwice", fn := fun _ => fun
  | [d1, d2, d3, d4] => { results := [.lit (.bool true)], args := [d1, d2, d3, d4] }
  | _ => none }
def misfireTwiceRow : OpenClaim := { program := "ytadfdkhgjjehnaadoor", sum := "0e95cd738731869ddc2be85fad9d2013c00b0e42265de39621e4d491c8a33e39", func := "wakeman/wakemanlaw32.MisfireTwice", spec := "misfireTwice", unfollowed := true, recurses := true, named := ["internal/strconv.uint64pow10", "math/bits.deBruijn32tab", "math/bits.deBruijn64tab"], apart := false, laid := [("math/bits.deBruijn32tab", laid_math_bits_deBruijn32tab), ("math/bits.deBruijn64tab", laid_math_bits_deBruijn64tab), ("internal/strconv.uint64pow10", laid_internal_strconv_uint64pow10)] }
def MisfireTwiceSaid : Prop := misfireTwiceRow.holds Tryd.pinned (OpenSpec.ofChange misfireTwiceSpec)

/-- ITS FALSE NEIGHBOUR: 'it returns false'. Refute it at one input. -/
def misfireTwiceWrong : ChangeSpec := { name := "misfireTwice", fn := fun _ => fun
  | [d1, d2, d3, d4] => { results := [.lit (.bool false)], args := [d1, d2, d3, d4] }
  | _ => none }
def MisfireTwiceWrongFalsely : Prop := misfireTwiceRow.holds Tryd.pinned (OpenSpec.ofChange misfireTwiceWrong)

/-- 'wakemanlaw32.MisfireTexts': WHATEVER THE INPUT: true; the input reads as it did. -/
def misfireTextsSpec : ChangeSpec := { name := "misfireTexts", fn := fun _ => fun
  | [d1, d2, d3] => { results := [.lit (.bool true)], args := [d1, d2, d3] }
  | _ => none }
def misfireTextsRow : OpenClaim := { program := "ytadfdkhgjjehnaadoor", sum := "0e95cd738731869ddc2be85fad9d2013c00b0e42265de39621e4d491c8a33e39", func := "wakeman/wakemanlaw32.MisfireTexts", spec := "misfireTexts", unfollowed := true, recurses := true, named := ["internal/strconv.uint64pow10", "math/bits.deBruijn32tab", "math/bits.deBruijn64tab", "strconv.ErrSyntax", "strconv.ErrRange"], apart := false, laid := [("math/bits.deBruijn32tab", laid_math_bits_deBruijn32tab), ("math/bits.deBruijn64tab", laid_math_bits_deBruijn64tab), ("internal/strconv.uint64pow10", laid_internal_strconv_uint64pow10), ("strconv.ErrRange", laid_strconv_ErrRange), ("strconv.ErrSyntax", laid_strconv_ErrSyntax)] }
def MisfireTextsSaid : Prop := misfireTextsRow.holds Tryd.pinned (OpenSpec.ofChange misfireTextsSpec)

/-- ITS FALSE NEIGHBOUR: 'it returns false'. Refute it at one input. -/
def misfireTextsWrong : ChangeSpec := { name := "misfireTexts", fn := fun _ => fun
  | [d1, d2, d3] => { results := [.lit (.bool false)], args := [d1, d2, d3] }
  | _ => none }
def MisfireTextsWrongFalsely : Prop := misfireTextsRow.holds Tryd.pinned (OpenSpec.ofChange misfireTextsWrong)

/-- 'wakemanlaw32.MisfireBack': WHATEVER THE INPUT: true; the input reads as it did. -/
def misfireBackSpec : ChangeSpec := { name := "misfireBack", fn := fun _ => fun
  | [d1, d2, d3] => { results := [.lit (.bool true)], args := [d1, d2, d3] }
  | _ => none }
def misfireBackRow : OpenClaim := { program := "ytadfdkhgjjehnaadoor", sum := "0e95cd738731869ddc2be85fad9d2013c00b0e42265de39621e4d491c8a33e39", func := "wakeman/wakemanlaw32.MisfireBack", spec := "misfireBack", unfollowed := true, recurses := true, named := ["internal/strconv.uint64pow10", "math/bits.deBruijn32tab", "math/bits.deBruijn64tab", "strconv.ErrSyntax", "strconv.ErrRange"], apart := false, laid := [("math/bits.deBruijn32tab", laid_math_bits_deBruijn32tab), ("math/bits.deBruijn64tab", laid_math_bits_deBruijn64tab), ("internal/strconv.uint64pow10", laid_internal_strconv_uint64pow10), ("strconv.ErrRange", laid_strconv_ErrRange), ("strconv.ErrSyntax", laid_strconv_ErrSyntax)] }
def MisfireBackSaid : Prop := misfireBackRow.holds Tryd.pinned (OpenSpec.ofChange misfireBackSpec)

/-- ITS FALSE NEIGHBOUR: 'it returns false'. Refute it at one input. -/
def misfireBackWrong : ChangeSpec := { name := "misfireBack", fn := fun _ => fun
  | [d1, d2, d3] => { results := [.lit (.bool false)], args := [d1, d2, d3] }
  | _ => none }
def MisfireBackWrongFalsely : Prop := misfireBackRow.holds Tryd.pinned (OpenSpec.ofChange misfireBackWrong)

/-- 'wakemanlaw32.MisfireKnown': WHATEVER THE INPUT: true; the input reads as it did. -/
def misfireKnownSpec : ChangeSpec := { name := "misfireKnown", fn := fun _ => fun
  | [] => { results := [.lit (.bool true)], args := [] }
  | _ => none }
def misfireKnownRow : OpenClaim := { program := "ytadfdkhgjjehnaadoor", sum := "0e95cd738731869ddc2be85fad9d2013c00b0e42265de39621e4d491c8a33e39", func := "wakeman/wakemanlaw32.MisfireKnown", spec := "misfireKnown", unfollowed := true, recurses := true, named := ["strconv.ErrSyntax", "strconv.ErrRange", "internal/strconv.uint64pow10", "math/bits.deBruijn32tab", "math/bits.deBruijn64tab"], apart := false, laid := [("math/bits.deBruijn32tab", laid_math_bits_deBruijn32tab), ("math/bits.deBruijn64tab", laid_math_bits_deBruijn64tab), ("internal/strconv.uint64pow10", laid_internal_strconv_uint64pow10), ("strconv.ErrRange", laid_strconv_ErrRange), ("strconv.ErrSyntax", laid_strconv_ErrSyntax)] }
def MisfireKnownSaid : Prop := misfireKnownRow.holds Tryd.pinned (OpenSpec.ofChange misfireKnownSpec)

/-- ITS FALSE NEIGHBOUR: 'it returns false'. Refute it at one input. -/
def misfireKnownWrong : ChangeSpec := { name := "misfireKnown", fn := fun _ => fun
  | [] => { results := [.lit (.bool false)], args := [] }
  | _ => none }
def MisfireKnownWrongFalsely : Prop := misfireKnownRow.holds Tryd.pinned (OpenSpec.ofChange misfireKnownWrong)

/- THE SECOND FORM. 'bulk': how many values and letters a reading holds, each counted each time it is reached (what is shared counts as often as it is met; a slice's spare places count too). A statement '..UptoSaid' is the law's where the arguments, and the package variables that the reading takes, are together of bulk at most 1048576: NARROWER than '..Said'. Prove '..Said' where nothing that the law and all that it calls make is longer than what came in: it says more and counts as full. Else prove '..UptoSaid'. A law counts once. -/
mutual
def uptoBulk {H : Type} : DataW H → Nat
  | .lit (.string bytes) => bytes.length + 1
  | .lit _ => 1
  | .nil => 1
  | .ptr d => uptoBulk d + 1
  | .slice elems spare => uptoBulkAll elems + uptoBulkAll spare + 1
  | .agg parts => uptoBulkAll parts + 1
  | .iface _ d => uptoBulk d + 1
  | .map entries => uptoBulkEntries entries + 1
  | .held _ => 1
def uptoBulkAll {H : Type} : List (DataW H) → Nat
  | [] => 0
  | d :: r => uptoBulk d + uptoBulkAll r
def uptoBulkEntries {H : Type} : List (Lit × DataW H) → Nat
  | [] => 0
  | x :: r => uptoBulkEntry x + uptoBulkEntries r
def uptoBulkEntry {H : Type} : Lit × DataW H → Nat
  | (.string bytes, d) => bytes.length + uptoBulk d + 1
  | (_, d) => uptoBulk d + 1
 end
def uptoSmall : (H : Type) → List (DataW H) → Bool := fun _ ds => decide (uptoBulkAll ds ≤ 1048576)
def OpenSpec.upto (s : _root_.Go.ChangeSpec) : _root_.Go.OpenSpec := { _root_.Go.OpenSpec.ofChange s with cond := some uptoSmall }

/-- 'wakemanlaw32.MisfireKeeps', WHERE WHAT IT READS IS OF BULK AT MOST 1048576: true; the input reads as it did. -/
def misfireKeepsUptoRow : OpenClaim := { program := "ytadfdkhgjjehnaadoor", sum := "0e95cd738731869ddc2be85fad9d2013c00b0e42265de39621e4d491c8a33e39", func := "wakeman/wakemanlaw32.MisfireKeeps", spec := "misfireKeeps", unfollowed := true, recurses := true, named := ["internal/strconv.uint64pow10", "math/bits.deBruijn32tab", "math/bits.deBruijn64tab"], apart := false, laid := [("math/bits.deBruijn32tab", laid_math_bits_deBruijn32tab), ("math/bits.deBruijn64tab", laid_math_bits_deBruijn64tab), ("internal/strconv.uint64pow10", laid_internal_strconv_uint64pow10)], narrowed := true }
def MisfireKeepsUptoSaid : Prop := misfireKeepsUptoRow.holds Tryd.pinned (OpenSpec.upto misfireKeepsSpec)

/-- 'wakemanlaw32.MisfireOrders', WHERE WHAT IT READS IS OF BULK AT MOST 1048576: true; the input reads as it did. -/
def misfireOrdersUptoRow : OpenClaim := { program := "ytadfdkhgjjehnaadoor", sum := "0e95cd738731869ddc2be85fad9d2013c00b0e42265de39621e4d491c8a33e39", func := "wakeman/wakemanlaw32.MisfireOrders", spec := "misfireOrders", unfollowed := true, recurses := true, named := ["internal/strconv.uint64pow10", "math/bits.deBruijn32tab", "math/bits.deBruijn64tab"], apart := false, laid := [("math/bits.deBruijn32tab", laid_math_bits_deBruijn32tab), ("math/bits.deBruijn64tab", laid_math_bits_deBruijn64tab), ("internal/strconv.uint64pow10", laid_internal_strconv_uint64pow10)], narrowed := true }
def MisfireOrdersUptoSaid : Prop := misfireOrdersUptoRow.holds Tryd.pinned (OpenSpec.upto misfireOrdersSpec)

/-- 'wakemanlaw32.MisfireParts', WHERE WHAT IT READS IS OF BULK AT MOST 1048576: true; the input reads as it did. -/
def misfirePartsUptoRow : OpenClaim := { program := "ytadfdkhgjjehnaadoor", sum := "0e95cd738731869ddc2be85fad9d2013c00b0e42265de39621e4d491c8a33e39", func := "wakeman/wakemanlaw32.MisfireParts", spec := "misfireParts", unfollowed := true, recurses := true, named := ["internal/strconv.uint64pow10", "math/bits.deBruijn32tab", "math/bits.deBruijn64tab"], apart := false, laid := [("math/bits.deBruijn32tab", laid_math_bits_deBruijn32tab), ("math/bits.deBruijn64tab", laid_math_bits_deBruijn64tab), ("internal/strconv.uint64pow10", laid_internal_strconv_uint64pow10)], narrowed := true }
def MisfirePartsUptoSaid : Prop := misfirePartsUptoRow.holds Tryd.pinned (OpenSpec.upto misfirePartsSpec)

/-- 'wakemanlaw32.MisfireLast', WHERE WHAT IT READS IS OF BULK AT MOST 1048576: true; the input reads as it did. -/
def misfireLastUptoRow : OpenClaim := { program := "ytadfdkhgjjehnaadoor", sum := "0e95cd738731869ddc2be85fad9d2013c00b0e42265de39621e4d491c8a33e39", func := "wakeman/wakemanlaw32.MisfireLast", spec := "misfireLast", unfollowed := true, recurses := true, named := ["internal/strconv.uint64pow10", "math/bits.deBruijn32tab", "math/bits.deBruijn64tab"], apart := false, laid := [("math/bits.deBruijn32tab", laid_math_bits_deBruijn32tab), ("math/bits.deBruijn64tab", laid_math_bits_deBruijn64tab), ("internal/strconv.uint64pow10", laid_internal_strconv_uint64pow10)], narrowed := true }
def MisfireLastUptoSaid : Prop := misfireLastUptoRow.holds Tryd.pinned (OpenSpec.upto misfireLastSpec)

/-- 'wakemanlaw32.MisfireMerges', WHERE WHAT IT READS IS OF BULK AT MOST 1048576: true; the input reads as it did. -/
def misfireMergesUptoRow : OpenClaim := { program := "ytadfdkhgjjehnaadoor", sum := "0e95cd738731869ddc2be85fad9d2013c00b0e42265de39621e4d491c8a33e39", func := "wakeman/wakemanlaw32.MisfireMerges", spec := "misfireMerges", unfollowed := true, recurses := true, named := ["internal/strconv.uint64pow10", "math/bits.deBruijn32tab", "math/bits.deBruijn64tab"], apart := false, laid := [("math/bits.deBruijn32tab", laid_math_bits_deBruijn32tab), ("math/bits.deBruijn64tab", laid_math_bits_deBruijn64tab), ("internal/strconv.uint64pow10", laid_internal_strconv_uint64pow10)], narrowed := true }
def MisfireMergesUptoSaid : Prop := misfireMergesUptoRow.holds Tryd.pinned (OpenSpec.upto misfireMergesSpec)

/-- 'wakemanlaw32.MisfireJoins', WHERE WHAT IT READS IS OF BULK AT MOST 1048576: true; the input reads as it did. -/
def misfireJoinsUptoRow : OpenClaim := { program := "ytadfdkhgjjehnaadoor", sum := "0e95cd738731869ddc2be85fad9d2013c00b0e42265de39621e4d491c8a33e39", func := "wakeman/wakemanlaw32.MisfireJoins", spec := "misfireJoins", unfollowed := true, recurses := true, named := ["internal/strconv.uint64pow10", "math/bits.deBruijn32tab", "math/bits.deBruijn64tab"], apart := false, laid := [("math/bits.deBruijn32tab", laid_math_bits_deBruijn32tab), ("math/bits.deBruijn64tab", laid_math_bits_deBruijn64tab), ("internal/strconv.uint64pow10", laid_internal_strconv_uint64pow10)], narrowed := true }
def MisfireJoinsUptoSaid : Prop := misfireJoinsUptoRow.holds Tryd.pinned (OpenSpec.upto misfireJoinsSpec)

/-- 'wakemanlaw32.MisfireTwice', WHERE WHAT IT READS IS OF BULK AT MOST 1048576: true; the input reads as it did. -/
def misfireTwiceUptoRow : OpenClaim := { program := "ytadfdkhgjjehnaadoor", sum := "0e95cd738731869ddc2be85fad9d2013c00b0e42265de39621e4d491c8a33e39", func := "wakeman/wakemanlaw32.MisfireTwice", spec := "misfireTwice", unfollowed := true, recurses := true, named := ["internal/strconv.uint64pow10", "math/bits.deBruijn32tab", "math/bits.deBruijn64tab"], apart := false, laid := [("math/bits.deBruijn32tab", laid_math_bits_deBruijn32tab), ("math/bits.deBruijn64tab", laid_math_bits_deBruijn64tab), ("internal/strconv.uint64pow10", laid_internal_strconv_uint64pow10)], narrowed := true }
def MisfireTwiceUptoSaid : Prop := misfireTwiceUptoRow.holds Tryd.pinned (OpenSpec.upto misfireTwiceSpec)

/-- 'wakemanlaw32.MisfireTexts', WHERE WHAT IT READS IS OF BULK AT MOST 1048576: true; the input reads as it did. -/
def misfireTextsUptoRow : OpenClaim := { program := "ytadfdkhgjjehnaadoor", sum := "0e95cd738731869ddc2be85fad9d2013c00b0e42265de39621e4d491c8a33e39", func := "wakeman/wakemanlaw32.MisfireTexts", spec := "misfireTexts", unfollowed := true, recurses := true, named := ["internal/strconv.uint64pow10", "math/bits.deBruijn32tab", "math/bits.deBruijn64tab", "strconv.ErrSyntax", "strconv.ErrRange"], apart := false, laid := [("math/bits.deBruijn32tab", laid_math_bits_deBruijn32tab), ("math/bits.deBruijn64tab", laid_math_bits_deBruijn64tab), ("internal/strconv.uint64pow10", laid_internal_strconv_uint64pow10), ("strconv.ErrRange", laid_strconv_ErrRange), ("strconv.ErrSyntax", laid_strconv_ErrSyntax)], narrowed := true }
def MisfireTextsUptoSaid : Prop := misfireTextsUptoRow.holds Tryd.pinned (OpenSpec.upto misfireTextsSpec)

/-- 'wakemanlaw32.MisfireBack', WHERE WHAT IT READS IS OF BULK AT MOST 1048576: true; the input reads as it did. -/
def misfireBackUptoRow : OpenClaim := { program := "ytadfdkhgjjehnaadoor", sum := "0e95cd738731869ddc2be85fad9d2013c00b0e42265de39621e4d491c8a33e39", func := "wakeman/wakemanlaw32.MisfireBack", spec := "misfireBack", unfollowed := true, recurses := true, named := ["internal/strconv.uint64pow10", "math/bits.deBruijn32tab", "math/bits.deBruijn64tab", "strconv.ErrSyntax", "strconv.ErrRange"], apart := false, laid := [("math/bits.deBruijn32tab", laid_math_bits_deBruijn32tab), ("math/bits.deBruijn64tab", laid_math_bits_deBruijn64tab), ("internal/strconv.uint64pow10", laid_internal_strconv_uint64pow10), ("strconv.ErrRange", laid_strconv_ErrRange), ("strconv.ErrSyntax", laid_strconv_ErrSyntax)], narrowed := true }
def MisfireBackUptoSaid : Prop := misfireBackUptoRow.holds Tryd.pinned (OpenSpec.upto misfireBackSpec)

/-- 'wakemanlaw32.MisfireKnown', WHERE WHAT IT READS IS OF BULK AT MOST 1048576: true; the input reads as it did. -/
def misfireKnownUptoRow : OpenClaim := { program := "ytadfdkhgjjehnaadoor", sum := "0e95cd738731869ddc2be85fad9d2013c00b0e42265de39621e4d491c8a33e39", func := "wakeman/wakemanlaw32.MisfireKnown", spec := "misfireKnown", unfollowed := true, recurses := true, named := ["strconv.ErrSyntax", "strconv.ErrRange", "internal/strconv.uint64pow10", "math/bits.deBruijn32tab", "math/bits.deBruijn64tab"], apart := false, laid := [("math/bits.deBruijn32tab", laid_math_bits_deBruijn32tab), ("math/bits.deBruijn64tab", laid_math_bits_deBruijn64tab), ("internal/strconv.uint64pow10", laid_internal_strconv_uint64pow10), ("strconv.ErrRange", laid_strconv_ErrRange), ("strconv.ErrSyntax", laid_strconv_ErrSyntax)], narrowed := true }
def MisfireKnownUptoSaid : Prop := misfireKnownUptoRow.holds Tryd.pinned (OpenSpec.upto misfireKnownSpec)

end Rows
end Go.Proofs.YtadfdkhgjjehnaaDoor
