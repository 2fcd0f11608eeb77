/- A civil time handed over by value: opened to its six numbers, and shut again. -/
import Derived.Test.YtdhlgmclogdplaaDoorRows
import Derived.Lib.SmallJoins
namespace Go.Proofs.YtdhlgmclogdplaaDoor
open Go.ChangeShapes Go.WideShapes Go.RowKit Go.Deep Go.Joins
set_option linter.unusedVariables false
section
variable {H : Type} {enc : TypeId × Value → H} {w : World} {base : Nat} {spare : Nat → Bool} {held : Bool}
theorem open_civil {r : Reach} {b0 : Nat} {v : Value} {d : DataW H} {p : List MemPlace} (hv : Value.okWide Tryd.prog w r b0 28 v) (h : DataW.Trod enc Tryd.prog w base spare held 28 v d p) :
    ∃ a0 a1 a2 a3 a4 a5 : Int, v = .agg #[.int .i64 a0, .int .i64 a1, .int .i64 a2, .int .i64 a3, .int .i64 a4, .int .i64 a5] ∧ d = .agg [.lit (.int .i64 a0), .lit (.int .i64 a1), .lit (.int .i64 a2), .lit (.int .i64 a3), .lit (.int .i64 a4), .lit (.int .i64 a5)] ∧ p = [] ∧ (Lit.int .i64 a0).wf = true ∧ (Lit.int .i64 a1).wf = true ∧ (Lit.int .i64 a2).wf = true ∧ (Lit.int .i64 a3).wf = true ∧ (Lit.int .i64 a4).wf = true ∧ (Lit.int .i64 a5).wf = true := by
  have hs := Tryd.underlying28
  obtain ⟨cs, rfl, hsz⟩ := okWide_struct hs hv
  obtain ⟨l⟩ := cs
  have hC : Tryd.prog.cellsOf 28 = 6 := by kernel_rfl
  match l, hsz.trans hC with
  | [c0, c1, c2, c3, c4, c5], _ =>
    obtain ⟨fuel, hf⟩ := h
    obtain ⟨xs, n, _, hx, _, hlen, hg⟩ := DataW.trod_struct hs hf
    match xs, hlen with
    | [y0, y1, y2, y3, y4, y5], _ =>
      simp only [Prod.mk.injEq] at hx
      obtain ⟨hx1, hx2⟩ := hx
      have h1 : Tryd.prog.cellsOf 3 = 1 := by kernel_rfl
      have r0 : DataW.trod enc Tryd.prog w base spare held n 3 [c0] = some y0 := by have := hg 0 _ rfl; simpa [Value.cells, h1] using this
      obtain ⟨a0, e0, rfl, w0⟩ := DataW.trod_int Tryd.underlying3 r0
      obtain rfl := List.singleton_inj.1 e0
      have r1 : DataW.trod enc Tryd.prog w base spare held n 3 [c1] = some y1 := by have := hg 1 _ rfl; simpa [Value.cells, h1] using this
      obtain ⟨a1, e1, rfl, w1⟩ := DataW.trod_int Tryd.underlying3 r1
      obtain rfl := List.singleton_inj.1 e1
      have r2 : DataW.trod enc Tryd.prog w base spare held n 3 [c2] = some y2 := by have := hg 2 _ rfl; simpa [Value.cells, h1] using this
      obtain ⟨a2, e2, rfl, w2⟩ := DataW.trod_int Tryd.underlying3 r2
      obtain rfl := List.singleton_inj.1 e2
      have r3 : DataW.trod enc Tryd.prog w base spare held n 3 [c3] = some y3 := by have := hg 3 _ rfl; simpa [Value.cells, h1] using this
      obtain ⟨a3, e3, rfl, w3⟩ := DataW.trod_int Tryd.underlying3 r3
      obtain rfl := List.singleton_inj.1 e3
      have r4 : DataW.trod enc Tryd.prog w base spare held n 3 [c4] = some y4 := by have := hg 4 _ rfl; simpa [Value.cells, h1] using this
      obtain ⟨a4, e4, rfl, w4⟩ := DataW.trod_int Tryd.underlying3 r4
      obtain rfl := List.singleton_inj.1 e4
      have r5 : DataW.trod enc Tryd.prog w base spare held n 3 [c5] = some y5 := by have := hg 5 _ rfl; simpa [Value.cells, h1] using this
      obtain ⟨a5, e5, rfl, w5⟩ := DataW.trod_int Tryd.underlying3 r5
      obtain rfl := List.singleton_inj.1 e5
      exact ⟨a0, a1, a2, a3, a4, a5, rfl, by simpa using hx1, by simpa using hx2, w0, w1, w2, w3, w4, w5⟩
theorem shut_civil {a0 a1 a2 a3 a4 a5 : Int} (w0 : (Lit.int .i64 a0).wf = true) (w1 : (Lit.int .i64 a1).wf = true) (w2 : (Lit.int .i64 a2).wf = true) (w3 : (Lit.int .i64 a3).wf = true) (w4 : (Lit.int .i64 a4).wf = true) (w5 : (Lit.int .i64 a5).wf = true) :
    DataW.Trod enc Tryd.prog w base spare held 28 (.agg #[.int .i64 a0, .int .i64 a1, .int .i64 a2, .int .i64 a3, .int .i64 a4, .int .i64 a5]) (.agg [.lit (.int .i64 a0), .lit (.int .i64 a1), .lit (.int .i64 a2), .lit (.int .i64 a3), .lit (.int .i64 a4), .lit (.int .i64 a5)]) [] := by
  have h1 : Tryd.prog.cellsOf 3 = 1 := by kernel_rfl
  have hC : Tryd.prog.cellsOf 28 = 6 := by kernel_rfl
  have t0 := trod_int_mk (enc := enc) (w := w) (base := base) (spare := spare) (held := held) 0 Tryd.underlying3 w0
  have t1 := trod_int_mk (enc := enc) (w := w) (base := base) (spare := spare) (held := held) 0 Tryd.underlying3 w1
  have t2 := trod_int_mk (enc := enc) (w := w) (base := base) (spare := spare) (held := held) 0 Tryd.underlying3 w2
  have t3 := trod_int_mk (enc := enc) (w := w) (base := base) (spare := spare) (held := held) 0 Tryd.underlying3 w3
  have t4 := trod_int_mk (enc := enc) (w := w) (base := base) (spare := spare) (held := held) 0 Tryd.underlying3 w4
  have t5 := trod_int_mk (enc := enc) (w := w) (base := base) (spare := spare) (held := held) 0 Tryd.underlying3 w5
  have ts := trod_struct_mk (enc := enc) (w := w) (base := base) (spare := spare) (held := held) (n := 1) (cs := [.int .i64 a0, .int .i64 a1, .int .i64 a2, .int .i64 a3, .int .i64 a4, .int .i64 a5]) (xs := [(.lit (.int .i64 a0), []), (.lit (.int .i64 a1), []), (.lit (.int .i64 a2), []), (.lit (.int .i64 a3), []), (.lit (.int .i64 a4), []), (.lit (.int .i64 a5), [])]) Tryd.underlying28 (by simp [hC]) (by simp [h1, t0, t1, t2, t3, t4, t5])
  exact ⟨_, by simpa [Value.cells] using ts⟩
end
end Go.Proofs.YtdhlgmclogdplaaDoor
