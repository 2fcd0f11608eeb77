/- The arguments of the law: the policy, the limit and the steps. -/
import Derived.Test.YtnmgcjkffeeapabGreatDoorRows
import Derived.Test.YtnmgcjkffeeapabGreatDoorLawC
import Derived.Lib.SmallJoins
import Derived.OpenShut
import Derived.Deep.Matrix
namespace Go.Proofs.YtnmgcjkffeeapabGreatDoor
open Go.ChangeShapes Go.WideShapes Go.RowKit Go.Deep Go.Joins
set_option linter.unusedVariables false
set_option maxRecDepth 100000
theorem len2 {α : Type} : ∀ {l : List α}, l.length = 2 → ∃ c0 c1, l = [c0, c1]
  | [c0, c1], _ => ⟨c0, c1, rfl⟩
theorem len3 {α : Type} : ∀ {l : List α}, l.length = 3 → ∃ c0 c1 c2, l = [c0, c1, c2]
  | [c0, c1, c2], _ => ⟨c0, c1, c2, rfl⟩
theorem len4 {α : Type} : ∀ {l : List α}, l.length = 4 → ∃ c0 c1 c2 c3, l = [c0, c1, c2, c3]
  | [c0, c1, c2, c3], _ => ⟨c0, c1, c2, c3, rfl⟩
theorem len9 {α : Type} : ∀ {l : List α}, l.length = 9 → ∃ c0 c1 c2 c3 c4 c5 c6 c7 c8, l = [c0, c1, c2, c3, c4, c5, c6, c7, c8]
  | [c0, c1, c2, c3, c4, c5, c6, c7, c8], _ => ⟨c0, c1, c2, c3, c4, c5, c6, c7, c8, rfl⟩
theorem len15 {α : Type} : ∀ {l : List α}, l.length = 15 → ∃ c0 c1 c2 c3 c4 c5 c6 c7 c8 c9 c10 c11 c12 c13 c14, l = [c0, c1, c2, c3, c4, c5, c6, c7, c8, c9, c10, c11, c12, c13, c14]
  | [c0, c1, c2, c3, c4, c5, c6, c7, c8, c9, c10, c11, c12, c13, c14], _ => ⟨c0, c1, c2, c3, c4, c5, c6, c7, c8, c9, c10, c11, c12, c13, c14, rfl⟩
section
variable {H : Type} {enc : TypeId × Value → H} {w : World} {base : Nat} {spare : Nat → Bool} {held : Bool}
theorem cells23 {fuel : Nat} {cs : List Value} {x : DataW H × List MemPlace} (h : DataW.trod enc Tryz.prog w base spare held fuel 23 cs = some x) : ∃ a0 a1 : Int, cs = [.int .i64 a0, .int .i64 a1] := by
  have h2 : Tryz.prog.cellsOf 2 = 1 := by kernel_rfl
  have h3 : Tryz.prog.cellsOf 3 = 1 := by kernel_rfl
  have hC : Tryz.prog.cellsOf 23 = 2 := by kernel_rfl
  obtain ⟨xs, n, _, hx, hsz, hlen, hg⟩ := DataW.trod_struct Tryz.underlying23 h
  obtain ⟨c0, c1, rfl⟩ := len2 (hsz.trans hC)
  obtain ⟨y0, y1, rfl⟩ := len2 hlen
  have r0 : DataW.trod enc Tryz.prog w base spare held n 2 [c0] = some y0 := by have := hg 0 _ rfl; simpa [Value.cells, h2, h3] using this
  obtain ⟨a0, e0, rfl, w0⟩ := DataW.trod_int Tryz.underlying2 r0
  obtain rfl := List.singleton_inj.1 e0
  have r1 : DataW.trod enc Tryz.prog w base spare held n 2 [c1] = some y1 := by have := hg 1 _ rfl; simpa [Value.cells, h2, h3] using this
  obtain ⟨a1, e1, rfl, w1⟩ := DataW.trod_int Tryz.underlying2 r1
  obtain rfl := List.singleton_inj.1 e1
  exact ⟨a0, a1, rfl⟩
theorem cells25 {fuel : Nat} {cs : List Value} {x : DataW H × List MemPlace} (h : DataW.trod enc Tryz.prog w base spare held fuel 25 cs = some x) : ∃ a0 a1 a2 : Int, cs = [.int .i64 a0, .int .i64 a1, .int .i64 a2] := by
  have h2 : Tryz.prog.cellsOf 2 = 1 := by kernel_rfl
  have h3 : Tryz.prog.cellsOf 3 = 1 := by kernel_rfl
  have hC : Tryz.prog.cellsOf 25 = 3 := by kernel_rfl
  obtain ⟨xs, n, _, hx, hsz, hlen, hg⟩ := DataW.trod_struct Tryz.underlying25 h
  obtain ⟨c0, c1, c2, rfl⟩ := len3 (hsz.trans hC)
  obtain ⟨y0, y1, y2, rfl⟩ := len3 hlen
  have r0 : DataW.trod enc Tryz.prog w base spare held n 3 [c0] = some y0 := by have := hg 0 _ rfl; simpa [Value.cells, h2, h3] using this
  obtain ⟨a0, e0, rfl, w0⟩ := DataW.trod_int Tryz.underlying3 r0
  obtain rfl := List.singleton_inj.1 e0
  have r1 : DataW.trod enc Tryz.prog w base spare held n 2 [c1] = some y1 := by have := hg 1 _ rfl; simpa [Value.cells, h2, h3] using this
  obtain ⟨a1, e1, rfl, w1⟩ := DataW.trod_int Tryz.underlying2 r1
  obtain rfl := List.singleton_inj.1 e1
  have r2 : DataW.trod enc Tryz.prog w base spare held n 3 [c2] = some y2 := by have := hg 2 _ rfl; simpa [Value.cells, h2, h3] using this
  obtain ⟨a2, e2, rfl, w2⟩ := DataW.trod_int Tryz.underlying3 r2
  obtain rfl := List.singleton_inj.1 e2
  exact ⟨a0, a1, a2, rfl⟩
theorem cells27 {fuel : Nat} {cs : List Value} {x : DataW H × List MemPlace} (h : DataW.trod enc Tryz.prog w base spare held fuel 27 cs = some x) : ∃ a0 a1 a2 a3 : Int, cs = [.int .i64 a0, .int .i64 a1, .int .i64 a2, .int .i64 a3] := by
  have h2 : Tryz.prog.cellsOf 2 = 1 := by kernel_rfl
  have h3 : Tryz.prog.cellsOf 3 = 1 := by kernel_rfl
  have hC : Tryz.prog.cellsOf 27 = 4 := by kernel_rfl
  obtain ⟨xs, n, _, hx, hsz, hlen, hg⟩ := DataW.trod_struct Tryz.underlying27 h
  obtain ⟨c0, c1, c2, c3, rfl⟩ := len4 (hsz.trans hC)
  obtain ⟨y0, y1, y2, y3, rfl⟩ := len4 hlen
  have r0 : DataW.trod enc Tryz.prog w base spare held n 3 [c0] = some y0 := by have := hg 0 _ rfl; simpa [Value.cells, h2, h3] using this
  obtain ⟨a0, e0, rfl, w0⟩ := DataW.trod_int Tryz.underlying3 r0
  obtain rfl := List.singleton_inj.1 e0
  have r1 : DataW.trod enc Tryz.prog w base spare held n 2 [c1] = some y1 := by have := hg 1 _ rfl; simpa [Value.cells, h2, h3] using this
  obtain ⟨a1, e1, rfl, w1⟩ := DataW.trod_int Tryz.underlying2 r1
  obtain rfl := List.singleton_inj.1 e1
  have r2 : DataW.trod enc Tryz.prog w base spare held n 2 [c2] = some y2 := by have := hg 2 _ rfl; simpa [Value.cells, h2, h3] using this
  obtain ⟨a2, e2, rfl, w2⟩ := DataW.trod_int Tryz.underlying2 r2
  obtain rfl := List.singleton_inj.1 e2
  have r3 : DataW.trod enc Tryz.prog w base spare held n 2 [c3] = some y3 := by have := hg 3 _ rfl; simpa [Value.cells, h2, h3] using this
  obtain ⟨a3, e3, rfl, w3⟩ := DataW.trod_int Tryz.underlying2 r3
  obtain rfl := List.singleton_inj.1 e3
  exact ⟨a0, a1, a2, a3, rfl⟩
theorem cells29 {fuel : Nat} {cs : List Value} {x : DataW H × List MemPlace} (h : DataW.trod enc Tryz.prog w base spare held fuel 29 cs = some x) : ∃ a0 a1 a2 a3 a4 a5 a6 a7 a8 a9 a10 a11 a12 a13 a14 : Int, cs = [.int .i64 a0, .int .i64 a1, .int .i64 a2, .int .i64 a3, .int .i64 a4, .int .i64 a5, .int .i64 a6, .int .i64 a7, .int .i64 a8, .int .i64 a9, .int .i64 a10, .int .i64 a11, .int .i64 a12, .int .i64 a13, .int .i64 a14] := by
  have h2 : Tryz.prog.cellsOf 2 = 1 := by kernel_rfl
  have h3 : Tryz.prog.cellsOf 3 = 1 := by kernel_rfl
  have h23 : Tryz.prog.cellsOf 23 = 2 := by kernel_rfl
  have h25 : Tryz.prog.cellsOf 25 = 3 := by kernel_rfl
  have h27 : Tryz.prog.cellsOf 27 = 4 := by kernel_rfl
  have hC : Tryz.prog.cellsOf 29 = 15 := by kernel_rfl
  obtain ⟨xs, n, _, hx, hsz, hlen, hg⟩ := DataW.trod_struct Tryz.underlying29 h
  obtain ⟨c0, c1, c2, c3, c4, c5, c6, c7, c8, c9, c10, c11, c12, c13, c14, rfl⟩ := len15 (hsz.trans hC)
  obtain ⟨y0, y1, y2, y3, y4, y5, y6, y7, y8, rfl⟩ := len9 hlen
  have r0 : DataW.trod enc Tryz.prog w base spare held n 3 [c0] = some y0 := by have := hg 0 _ rfl; simpa [Value.cells, h2, h3] using this
  obtain ⟨a0, e0, rfl, w0⟩ := DataW.trod_int Tryz.underlying3 r0
  obtain rfl := List.singleton_inj.1 e0
  have r1 : DataW.trod enc Tryz.prog w base spare held n 3 [c1] = some y1 := by have := hg 1 _ rfl; simpa [Value.cells, h2, h3] using this
  obtain ⟨a1, e1, rfl, w1⟩ := DataW.trod_int Tryz.underlying3 r1
  obtain rfl := List.singleton_inj.1 e1
  have r2 : DataW.trod enc Tryz.prog w base spare held n 2 [c2] = some y2 := by have := hg 2 _ rfl; simpa [Value.cells, h2, h3] using this
  obtain ⟨a2, e2, rfl, w2⟩ := DataW.trod_int Tryz.underlying2 r2
  obtain rfl := List.singleton_inj.1 e2
  have r3 : DataW.trod enc Tryz.prog w base spare held n 2 [c3] = some y3 := by have := hg 3 _ rfl; simpa [Value.cells, h2, h3] using this
  obtain ⟨a3, e3, rfl, w3⟩ := DataW.trod_int Tryz.underlying2 r3
  obtain rfl := List.singleton_inj.1 e3
  have r4 : DataW.trod enc Tryz.prog w base spare held n 3 [c4] = some y4 := by have := hg 4 _ rfl; simpa [Value.cells, h2, h3] using this
  obtain ⟨a4, e4, rfl, w4⟩ := DataW.trod_int Tryz.underlying3 r4
  obtain rfl := List.singleton_inj.1 e4
  have r5 : DataW.trod enc Tryz.prog w base spare held n 3 [c5] = some y5 := by have := hg 5 _ rfl; simpa [Value.cells, h2, h3] using this
  obtain ⟨a5, e5, rfl, w5⟩ := DataW.trod_int Tryz.underlying3 r5
  obtain rfl := List.singleton_inj.1 e5
  have r6 : DataW.trod enc Tryz.prog w base spare held n 23 [c6, c7] = some y6 := by have := hg 6 _ rfl; simpa [Value.cells, h23] using this
  have r7 : DataW.trod enc Tryz.prog w base spare held n 25 [c8, c9, c10] = some y7 := by have := hg 7 _ rfl; simpa [Value.cells, h25] using this
  have r8 : DataW.trod enc Tryz.prog w base spare held n 27 [c11, c12, c13, c14] = some y8 := by have := hg 8 _ rfl; simpa [Value.cells, h27] using this
  obtain ⟨a6, a7, e6⟩ := cells23 r6
  obtain ⟨a8, a9, a10, e7⟩ := cells25 r7
  obtain ⟨a11, a12, a13, a14, e8⟩ := cells27 r8
  cases e6
  cases e7
  cases e8
  exact ⟨a0, a1, a2, a3, a4, a5, a6, a7, a8, a9, a10, a11, a12, a13, a14, rfl⟩
theorem open_policy {r : Reach} {b0 : Nat} {v : Value} {d : DataW H} {p : List MemPlace} (hv : Value.okWide Tryz.prog w r b0 29 v) (h : DataW.Trod enc Tryz.prog w base spare held 29 v d p) : ∃ a0 a1 a2 a3 a4 a5 a6 a7 a8 a9 a10 a11 a12 a13 a14 : Int, v = .agg #[.int .i64 a0, .int .i64 a1, .int .i64 a2, .int .i64 a3, .int .i64 a4, .int .i64 a5, .int .i64 a6, .int .i64 a7, .int .i64 a8, .int .i64 a9, .int .i64 a10, .int .i64 a11, .int .i64 a12, .int .i64 a13, .int .i64 a14] := by
  have hs := Tryz.underlying29
  obtain ⟨cs, rfl, hsz⟩ := okWide_struct hs hv
  obtain ⟨l⟩ := cs
  obtain ⟨fuel, hf⟩ := h
  obtain ⟨a0, a1, a2, a3, a4, a5, a6, a7, a8, a9, a10, a11, a12, a13, a14, e⟩ := cells29 hf
  simp only [Value.cells] at e
  exact ⟨a0, a1, a2, a3, a4, a5, a6, a7, a8, a9, a10, a11, a12, a13, a14, by rw [e]⟩
theorem open_limit {r : Reach} {b0 : Nat} {v : Value} {d : DataW H} {p : List MemPlace} (hv : Value.okWide Tryz.prog w r b0 23 v) (h : DataW.Trod enc Tryz.prog w base spare held 23 v d p) : ∃ a0 a1 : Int, v = .agg #[.int .i64 a0, .int .i64 a1] := by
  have hs := Tryz.underlying23
  obtain ⟨cs, rfl, hsz⟩ := okWide_struct hs hv
  obtain ⟨l⟩ := cs
  obtain ⟨fuel, hf⟩ := h
  obtain ⟨a0, a1, e⟩ := cells23 hf
  simp only [Value.cells] at e
  exact ⟨a0, a1, by rw [e]⟩
end
/-- a slice of integers among the arguments -/
def IsRow (k : IntKind) (w : World) (a : Option Addr) (len cap : Nat) (zs : List Int) : Prop :=
  (a = none ∧ len = 0 ∧ cap = 0 ∧ zs = []) ∨
  ∃ x, a = some x ∧ len ≤ cap ∧ cap ≤ maxLen ∧ zs.length = cap ∧ (∀ i, i < zs.length → w.cell? (x.add i) = some (.int k (zs.getD i 0))) ∧ ∀ n ∈ zs, (Lit.int k n).wf = true
theorem IsRow.steps {w : World} {a : Option Addr} {len cap : Nat} {zs : List Int} (h : IsRow .u8 w a len cap zs) : StepsAt a len zs w := by
  rcases h with ⟨rfl, rfl, rfl, rfl⟩ | ⟨x, rfl, h1, h2, h3, h4, h5⟩
  · exact Or.inl rfl
  · rcases Nat.eq_zero_or_pos len with h0 | h0
    · exact Or.inl h0
    · obtain ⟨b, off, spot⟩ := x
      have hspot : spot = none := by simpa [Addr.add] using World.cell?_spot (h4 0 (by omega))
      subst hspot
      have hc : ∀ r, r < len → w.cell? ⟨b, off + r, none⟩ = some (.int .u8 (zs.getD r 0)) := fun r hr => by rw [← Go.WideShapes.add_plain]; exact h4 r (by omega)
      refine Or.inr ⟨b, off, rfl, World.block_lt_of_cell? w _ (hc 0 h0), fun j hj => ⟨hc j hj, ?_⟩⟩
      have hm : zs.getD j 0 ∈ zs := by
        rw [List.getD_eq_getElem?_getD, List.getElem?_eq_getElem (by omega)]
        exact List.getElem_mem _
      have hw := h5 _ hm
      have hmin : IntKind.u8.min = 0 := rfl
      have hmax : IntKind.u8.max = 255 := rfl
      simp only [Lit.wf, Bool.and_eq_true, decide_eq_true_eq] at hw
      omega
/-- the law -/
theorem gates_walk (a0 a1 a2 a3 a4 a5 a6 a7 a8 a9 a10 a11 a12 a13 a14 t0 t1 : Int) (a : Option Addr) (len cap : Nat) (zs : List Int) (w : World) (hs : IsRow .u8 w a len cap zs) (_ : True) :
    Calls Tryz.prog 3 #[.agg #[.int .i64 a0, .int .i64 a1, .int .i64 a2, .int .i64 a3, .int .i64 a4, .int .i64 a5, .int .i64 a6, .int .i64 a7, .int .i64 a8, .int .i64 a9, .int .i64 a10, .int .i64 a11, .int .i64 a12, .int .i64 a13, .int .i64 a14], .agg #[.int .i64 t0, .int .i64 t1], .slice a len cap] w fun e w' => e = .returned (.bool true) ∧ Q w w' := by
  by_cases hb : 60 < len ∨ 5 < a0
  · exact law_big a0 a1 a2 a3 a4 a5 a6 a7 a8 a9 a10 a11 a12 a13 a14 t0 t1 a len cap w hb
  · by_cases hx : limE t0 t1 = 0 → (!decide (polE a0 a1 a2 a3 a4 a5 a6 a7 a8 a9 a10 a11 a12 a13 a14 = 0)) = true
    · exact law_inv a0 a1 a2 a3 a4 a5 a6 a7 a8 a9 a10 a11 a12 a13 a14 t0 t1 a len cap w (by omega) (by omega) hx
    · have hl : limE t0 t1 = 0 := by
        rcases Classical.em (limE t0 t1 = 0) with q | q
        · exact q
        · exact absurd (fun g => absurd g q) hx
      have hp : polE a0 a1 a2 a3 a4 a5 a6 a7 a8 a9 a10 a11 a12 a13 a14 = 0 := by
        rcases Classical.em (polE a0 a1 a2 a3 a4 a5 a6 a7 a8 a9 a10 a11 a12 a13 a14 = 0) with q | q
        · exact q
        · exact absurd (fun _ => by simp [q]) hx
      exact law_val a0 a1 a2 a3 a4 a5 a6 a7 a8 a9 a10 a11 a12 a13 a14 t0 t1 a len cap zs w (by omega) (by omega) hp hl hs.steps
theorem tab_of_laid {L : List (String × DataW Unit)} {W : World} (h : laidMetH Tryz.prog L W) : True := trivial
end Go.Proofs.YtnmgcjkffeeapabGreatDoor
