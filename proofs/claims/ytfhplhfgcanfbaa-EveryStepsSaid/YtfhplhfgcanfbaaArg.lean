/- A schedule handed over by value: opened to its three numbers, and shut again. -/
import Derived.Test.YtfhplhfgcanfbaaRows
import Derived.Lib.SmallJoins
namespace Go.Proofs.Ytfhplhfgcanfbaa
open Go.ChangeShapes Go.WideShapes Go.RowKit Go.Deep Go.Joins
set_option linter.unusedVariables false
section
variable {H : Type} {enc : TypeId × Value → H} {w : World} {base : Nat} {spare : Nat → Bool} {held : Bool}
theorem open_every {r : Reach} {b0 : Nat} {v : Value} {d : DataW H} {p : List MemPlace} (hv : Value.okWide Try.prog w r b0 23 v) (h : DataW.Trod enc Try.prog w base spare held 23 v d p) :
    ∃ a0 a1 a2 : Int, v = .agg #[.int .i64 a0, .int .i64 a1, .int .i64 a2] ∧ d = .agg [.lit (.int .i64 a0), .lit (.int .i64 a1), .lit (.int .i64 a2)] ∧ p = [] ∧ (Lit.int .i64 a0).wf = true ∧ (Lit.int .i64 a1).wf = true ∧ (Lit.int .i64 a2).wf = true := by
  have hs := Try.underlying23
  obtain ⟨cs, rfl, hsz⟩ := okWide_struct hs hv
  obtain ⟨l⟩ := cs
  have hC : Try.prog.cellsOf 23 = 3 := by kernel_rfl
  match l, hsz.trans hC with
  | [c0, c1, c2], _ =>
    obtain ⟨fuel, hf⟩ := h
    obtain ⟨xs, n, _, hx, _, hlen, hg⟩ := DataW.trod_struct hs hf
    match xs, hlen with
    | [y0, y1, y2], _ =>
      simp only [Prod.mk.injEq] at hx
      obtain ⟨hx1, hx2⟩ := hx
      have h2 : Try.prog.cellsOf 2 = 1 := by kernel_rfl
      have h3 : Try.prog.cellsOf 3 = 1 := by kernel_rfl
      have r0 : DataW.trod enc Try.prog w base spare held n 2 [c0] = some y0 := by have := hg 0 _ rfl; simpa [Value.cells, h2, h3] using this
      obtain ⟨a0, e0, rfl, w0⟩ := DataW.trod_int Try.underlying2 r0
      obtain rfl := List.singleton_inj.1 e0
      have r1 : DataW.trod enc Try.prog w base spare held n 2 [c1] = some y1 := by have := hg 1 _ rfl; simpa [Value.cells, h2, h3] using this
      obtain ⟨a1, e1, rfl, w1⟩ := DataW.trod_int Try.underlying2 r1
      obtain rfl := List.singleton_inj.1 e1
      have r2 : DataW.trod enc Try.prog w base spare held n 3 [c2] = some y2 := by have := hg 2 _ rfl; simpa [Value.cells, h2, h3] using this
      obtain ⟨a2, e2, rfl, w2⟩ := DataW.trod_int Try.underlying3 r2
      obtain rfl := List.singleton_inj.1 e2
      exact ⟨a0, a1, a2, rfl, by simpa using hx1, by simpa using hx2, w0, w1, w2⟩
theorem shut_every {a0 a1 a2 : Int} (w0 : (Lit.int .i64 a0).wf = true) (w1 : (Lit.int .i64 a1).wf = true) (w2 : (Lit.int .i64 a2).wf = true) :
    DataW.Trod enc Try.prog w base spare held 23 (.agg #[.int .i64 a0, .int .i64 a1, .int .i64 a2]) (.agg [.lit (.int .i64 a0), .lit (.int .i64 a1), .lit (.int .i64 a2)]) [] := by
  have h2 : Try.prog.cellsOf 2 = 1 := by kernel_rfl
  have h3 : Try.prog.cellsOf 3 = 1 := by kernel_rfl
  have hC : Try.prog.cellsOf 23 = 3 := by kernel_rfl
  have t0 := trod_int_mk (enc := enc) (w := w) (base := base) (spare := spare) (held := held) 0 Try.underlying2 w0
  have t1 := trod_int_mk (enc := enc) (w := w) (base := base) (spare := spare) (held := held) 0 Try.underlying2 w1
  have t2 := trod_int_mk (enc := enc) (w := w) (base := base) (spare := spare) (held := held) 0 Try.underlying3 w2
  have ts := trod_struct_mk (enc := enc) (w := w) (base := base) (spare := spare) (held := held) (n := 1) (cs := [.int .i64 a0, .int .i64 a1, .int .i64 a2]) (xs := [(.lit (.int .i64 a0), []), (.lit (.int .i64 a1), []), (.lit (.int .i64 a2), [])]) Try.underlying23 (by simp [hC]) (by simp [h2, h3, t0, t1, t2])
  exact ⟨_, by simpa [Value.cells] using ts⟩
end
end Go.Proofs.Ytfhplhfgcanfbaa
