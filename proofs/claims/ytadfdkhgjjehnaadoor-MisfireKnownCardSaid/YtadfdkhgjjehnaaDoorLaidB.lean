/- What the row's list of laid variables gives, where it names the two errors of strconv besides the tables. -/
import Derived.Test.YtadfdkhgjjehnaaDoorLaid
import Derived.Test.YtadfdkhgjjehnaaDoorMisR
namespace Go.Proofs.YtadfdkhgjjehnaaDoor
open Go.RowKit Go.ChangeShapes
theorem gRange : Tryd.prog.globalNamed "strconv.ErrRange" = some 1 := by kernel_rfl
theorem gRangeType : (Tryd.prog.globals[1]?).map (·.type) = some 73 := by kernel_rfl
theorem gSyntax : Tryd.prog.globalNamed "strconv.ErrSyntax" = some 0 := by kernel_rfl
theorem gSyntaxType : (Tryd.prog.globals[0]?).map (·.type) = some 73 := by kernel_rfl
theorem cells115 : Tryd.prog.cellsOf 115 = 1 := by kernel_rfl
theorem cells9 : Tryd.prog.cellsOf 9 = 1 := by kernel_rfl
theorem starName : "*" ++ "errors.errorString" = "*errors.errorString" := by decide
/-- the one type of that name -/
theorem row113 (u : TypeId) (h : Tryd.prog.typeName? 3 u = some "*errors.errorString") : u = 113 :=
  typeName_ptr_named (nm := "errors.errorString") (by rw [starName]; kernel_rfl) (by kernel_rfl) (by decide) u (by rw [starName]; exact h)
theorem errAt_of {g : Nat} {n : String} {W : World} (hg : Tryd.prog.globalNamed n = some g) {tp : TypeId} {p : Value} (h : W.var? Tryd.prog n = some #[.iface tp p]) : ErrAt g W :=
  ⟨.iface tp p, by have h0 := World.var?_cell hg h 0; simpa using h0, Or.inr ⟨tp, p, rfl⟩⟩
theorem tab_of_laid5 {W : World} (h : laidMetH Tryd.prog [("math/bits.deBruijn32tab", Rows.laid_math_bits_deBruijn32tab), ("math/bits.deBruijn64tab", Rows.laid_math_bits_deBruijn64tab), ("internal/strconv.uint64pow10", Rows.laid_internal_strconv_uint64pow10), ("strconv.ErrRange", Rows.laid_strconv_ErrRange), ("strconv.ErrSyntax", Rows.laid_strconv_ErrSyntax)] W) : Tab W ∧ Ers W := by
  rw [MakeChecks.laidMetH_plain _ _ _ (by kernel_rfl)] at h
  have h2 := laidMet.tail (laidMet.tail h)
  have h3 := laidMet.tail h2
  refine ⟨Lib.tabIs_of_head (k := .u64) (zs := Lib.pow10Tab) gPow gPowType Tryd.underlying105 Tryd.underlying91 cells91 cells105 h2, ?_, ?_⟩
  · obtain ⟨a0, s0, hv, _⟩ := laid_sentinel (laidMet.tail h3) gSyntax gSyntaxType Tryd.underlying73 row113 Tryd.underlying113 Tryd.underlying115 rfl rfl Tryd.underlying9 cells115 cells9
    exact errAt_of gSyntax hv
  · obtain ⟨a0, s0, hv, _⟩ := laid_sentinel h3 gRange gRangeType Tryd.underlying73 row113 Tryd.underlying113 Tryd.underlying115 rfl rfl Tryd.underlying9 cells115 cells9
    exact errAt_of gRange hv
end Go.Proofs.YtadfdkhgjjehnaaDoor
