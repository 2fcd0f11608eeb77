/- What the row's list of laid variables gives; the law's walk for the row. -/
import Derived.Test.YtnmgcjkffeeapaaDoorRows
import Derived.Test.YtnmgcjkffeeapaaDoorLwC
import Derived.Lib.LaidTab
import Derived.Stop.LaidErr
import Derived.MakeChecks
namespace Go.Proofs.YtnmgcjkffeeapaaDoor
open Go.RowKit
theorem gTabType : (Tryd.prog.globals[0]?).map (·.type) = some 106 := by kernel_rfl
theorem cells106 : Tryd.prog.cellsOf 106 = 64 := by kernel_rfl
theorem cells5 : Tryd.prog.cellsOf 5 = 1 := by kernel_rfl
theorem tab_of_laid {W : World} (h : laidMetH Tryd.prog [("math/bits.deBruijn64tab", Rows.laid_math_bits_deBruijn64tab)] W) : Tab W := by
  rw [MakeChecks.laidMetH_plain _ _ _ (by kernel_rfl)] at h
  exact Tab.of (Lib.tabIs_of_head (k := .u8) (zs := tzTab) (rest := []) gTab gTabType Tryd.underlying106 Tryd.underlying5 cells5 cells106 h)
end Go.Proofs.YtnmgcjkffeeapaaDoor
