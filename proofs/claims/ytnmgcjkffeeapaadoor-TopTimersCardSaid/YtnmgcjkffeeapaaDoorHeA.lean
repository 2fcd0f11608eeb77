/- A heap in memory. -/
import Derived.Test.YtnmgcjkffeeapaaDoorMpA
import Derived.Test.YtnmgcjkffeeapaaDoorHep
import Derived.Test.YtnmgcjkffeeapaaDoorWhA
namespace Go.Proofs.YtnmgcjkffeeapaaDoor
open Go.RowKit
set_option linter.unusedVariables false
set_option linter.unusedSimpArgs false
def c3 (e : En) : List Value := [.int .i64 e.id, .int .i64 e.v, .int .i64 e.p]
def cs (l : List En) : List Value := l.flatMap c3
theorem cs_cons (x : En) (l : List En) : cs (x :: l) = .int .i64 x.id :: .int .i64 x.v :: .int .i64 x.p :: cs l := by simp [cs, c3]
theorem cs_len (l : List En) : (cs l).length = l.length * 3 := by
  induction l with
  | nil => rfl
  | cons x l ih => rw [cs_cons]; simp [ih]; omega
theorem cs_app (l m : List En) : cs (l ++ m) = cs l ++ cs m := by simp [cs]
theorem cs_get : ∀ (l : List En) (j r : Nat), j < l.length → r < 3 → (cs l)[j * 3 + r]? = (c3 (Hep.g l j))[r]?
  | [], j, r, h, _ => by simp at h
  | x :: l, 0, r, _, hr => by
    rw [cs_cons]
    have : r = 0 ∨ r = 1 ∨ r = 2 := by omega
    rcases this with rfl | rfl | rfl <;> simp [Hep.g, c3]
  | x :: l, j + 1, r, h, hr => by
    rw [cs_cons]
    have e : (j + 1) * 3 + r = (j * 3 + r) + 1 + 1 + 1 := by omega
    rw [e]
    simp only [List.getElem?_cons_succ]
    rw [cs_get l j r (by simpa using h) hr]
    simp [Hep.g]
theorem cs_set : ∀ (l : List En) (j : Nat) (e : En), j < l.length → (((cs l).set (j * 3) (.int .i64 e.id)).set (j * 3 + 1) (.int .i64 e.v)).set (j * 3 + 2) (.int .i64 e.p) = cs (l.set j e)
  | [], j, e, h => by simp at h
  | x :: l, 0, e, _ => by simp [cs_cons]
  | x :: l, j + 1, e, h => by
    have e1 : (j + 1) * 3 = j * 3 + 1 + 1 + 1 := by omega
    have e2 : (j + 1) * 3 + 1 = (j * 3 + 1) + 1 + 1 + 1 := by omega
    have e3 : (j + 1) * 3 + 2 = (j * 3 + 2) + 1 + 1 + 1 := by omega
    rw [e3, e2, e1, cs_cons]
    simp only [List.set_cons_succ]
    rw [cs_set l j e (by simpa using h), cs_cons]
theorem cs_take (l : List En) (k : Nat) : (cs l).take (k * 3) = cs (l.take k) := by
  induction l generalizing k with
  | nil => simp [cs]
  | cons x l ih =>
    cases k with
    | zero => simp [cs]
    | succ k =>
      have e1 : (k + 1) * 3 = k * 3 + 1 + 1 + 1 := by omega
      rw [e1, cs_cons, List.take_succ_cons, List.take_succ_cons, List.take_succ_cons, List.take_succ_cons, cs_cons, ih]
def lessV : Value := .func (.func 7) #[] #[]
/-- a heap: its struct at H, its map at M, its entries l in the slice v; ids below B -/
structure HeAt (F : Nat → Prop) (H M : Nat) (v : Value) (l : List En) (ps B : Int) (w : World) : Prop where
  c0 : w.cell? ⟨H, 0, none⟩ = some lessV
  c1 : w.cell? ⟨H, 1, none⟩ = some v
  c2 : w.cell? ⟨H, 2, none⟩ = some (.map (some M))
  c3 : w.cell? ⟨H, 3, none⟩ = some (.int .i64 ps)
  f1 : w.frozen? ⟨H, 1, none⟩ = false
  f3 : w.frozen? ⟨H, 3, none⟩ = false
  row : w.ownsRow 0 67 3 v l.length (cs l)
  mp : ∃ ks, MpAt M ks [] w ∧ ks.Nodup ∧ ∀ k ∈ ks, k < B
  ib : ∀ x ∈ l, x.id < B
  FH : F H
  FM : F M
  Fv : ∀ g, v.ownBlock = some g → F g ∧ g ≠ H ∧ g ≠ M
  Fl : ∀ b, F b → b < w.heap.size
  ne : H ≠ M
section
variable {F G : Nat → Prop} {H M : Nat} {v : Value} {l : List En} {ps B : Int} {w w' : World}
theorem HeAt.fp (h : HeAt F H M v l ps B w) (hf : Fp G w w') (hn : ∀ b, F b → ¬ G b) : HeAt F H M v l ps B w' := by
  have lH : H < w.heap.size := h.Fl _ h.FH
  have lM : M < w.heap.size := h.Fl _ h.FM
  have nH := hn _ h.FH
  have nM := hn _ h.FM
  refine ⟨(hf.cell lH nH _).trans h.c0, (hf.cell lH nH _).trans h.c1, (hf.cell lH nH _).trans h.c2, (hf.cell lH nH _).trans h.c3, (hf.frozen lH nH _).trans h.f1, (hf.frozen lH nH _).trans h.f3, hf.owns h.row (fun g hg => hn g (h.Fv g hg).1), ?_, h.ib, h.FH, h.FM, h.Fv, fun b hb => Nat.lt_of_lt_of_le (h.Fl b hb) hf.size, h.ne⟩
  obtain ⟨ks, ⟨es, cl, hb, h2⟩, k2⟩ := h.mp
  exact ⟨ks, ⟨es, cl, (hf.block lM nM).trans hb, h2⟩, k2⟩
theorem HeAt.q (h : HeAt F H M v l ps B w) (hq : Q w w') : HeAt F H M v l ps B w' := h.fp (G := fun _ => False) (Fp.ofQ hq) (fun _ _ => id)
/-- the map is changed -/
theorem HeAt.setM (h : HeAt F H M v l ps B w) (es : Array MapEntry) (cl : Nat) (ks ss : List Int) (B' : Int) (hm : MpAt M ks ss (setMap w M es cl)) (hn : ks.Nodup) (hk : ∀ k ∈ ks, k < B') (hB : ∀ x ∈ l, x.id < B') : HeAt F H M v l ps B' (setMap w M es cl) := by
  have hf : Fp (fun b => b = M) w (setMap w M es cl) := Fp.ofFs (setMap_fs w M es cl) (by simp)
  have lH : H < w.heap.size := h.Fl _ h.FH
  have nH : ¬ (H = M) := h.ne
  exact ⟨(hf.cell lH nH _).trans h.c0, (hf.cell lH nH _).trans h.c1, (hf.cell lH nH _).trans h.c2, (hf.cell lH nH _).trans h.c3, (hf.frozen lH nH _).trans h.f1, (hf.frozen lH nH _).trans h.f3, hf.owns h.row (fun g hg => (h.Fv g hg).2.2), ⟨ks, hm.none, hn, hk⟩, hB, h.FH, h.FM, h.Fv, fun b hb => Nat.lt_of_lt_of_le (h.Fl b hb) hf.size, h.ne⟩
/-- a cell of an entry is written -/
theorem row_set3 {g n cap : Nat} {l : List En} (h : w.ownsRow 0 67 3 (.slice (some ⟨g, 0, none⟩) n cap) l.length (cs l)) (hn : n = l.length) {j : Nat} (hj : j < l.length) (e : En) :
    (((w.setCell ⟨g, j * 3, none⟩ (.int .i64 e.id)).setCell ⟨g, j * 3 + 1, none⟩ (.int .i64 e.v)).setCell ⟨g, j * 3 + 2, none⟩ (.int .i64 e.p)).ownsRow 0 67 3 (.slice (some ⟨g, 0, none⟩) n cap) l.length (cs (l.set j e)) := by
  subst hn
  have h1 := (h.stored (j * 3) (.int .i64 e.id)).1
  have h2 := (h1.stored (j * 3 + 1) (.int .i64 e.v)).1
  have h3 := (h2.stored (j * 3 + 2) (.int .i64 e.p)).1
  rw [cs_set l j e hj] at h3
  exact h3
theorem row_cell {g n cap : Nat} {l : List En} (h : w.ownsRow 0 67 3 (.slice (some ⟨g, 0, none⟩) n cap) l.length (cs l)) {j : Nat} (hj : j < l.length) :
    w.cell? ⟨g, j * 3, none⟩ = some (.int .i64 (Hep.g l j).id) ∧ w.cell? ⟨g, j * 3 + 1, none⟩ = some (.int .i64 (Hep.g l j).v) ∧ w.cell? ⟨g, j * 3 + 2, none⟩ = some (.int .i64 (Hep.g l j).p) ∧ ∀ r, w.frozen? ⟨g, r, none⟩ = false := by
  have hc : ∀ r, r < 3 → w.cell? ⟨g, j * 3 + r, none⟩ = (c3 (Hep.g l j))[r]? := fun r hr => by
    have := h.cells (g := g) rfl
    cases hu : (cs l)[j * 3 + r]? with
    | none =>
      rw [List.getElem?_eq_none_iff, cs_len] at hu
      omega
    | some u =>
      have q := this _ _ hu
      rw [Addr.add_lit] at q
      rw [← cs_get l j r hj hr, hu, ← q]
      simp
  refine ⟨hc 0 (by omega), hc 1 (by omega), hc 2 (by omega), fun r => ?_⟩
  rcases h.2 with ⟨h', _⟩ | ⟨g', cap', cur, h', _, hg, _⟩
  · simp at h'
  · simp only [Value.slice.injEq, Option.some.injEq, Addr.mk.injEq, and_true, true_and] at h'
    obtain ⟨rfl, _⟩ := h'
    exact frozen_of_row w g r cur 67 hg
/-- the entries alone have changed -/
theorem HeAt.setRow {l' : List En} (h : HeAt F H M v l ps B w) (hf : Fp (fun b => v.ownBlock = some b) w w') (hr : w'.ownsRow 0 67 3 v l'.length (cs l')) (hi : ∀ x ∈ l', x.id < B) : HeAt F H M v l' ps B w' := by
  have lH : H < w.heap.size := h.Fl _ h.FH
  have lM : M < w.heap.size := h.Fl _ h.FM
  have nH : ¬ v.ownBlock = some H := fun q => (h.Fv _ q).2.1 rfl
  have nM : ¬ v.ownBlock = some M := fun q => (h.Fv _ q).2.2 rfl
  refine ⟨(hf.cell lH nH _).trans h.c0, (hf.cell lH nH _).trans h.c1, (hf.cell lH nH _).trans h.c2, (hf.cell lH nH _).trans h.c3, (hf.frozen lH nH _).trans h.f1, (hf.frozen lH nH _).trans h.f3, hr, ?_, hi, h.FH, h.FM, h.Fv, fun b hb => Nat.lt_of_lt_of_le (h.Fl b hb) hf.size, h.ne⟩
  obtain ⟨ks, ⟨es, cl, hb, h2⟩, k2⟩ := h.mp
  exact ⟨ks, ⟨es, cl, (hf.block lM nM).trans hb, h2⟩, k2⟩
theorem HeAt.slice (h : HeAt F H M v l ps B w) (h0 : 0 < l.length) : ∃ g cap, v = .slice (some ⟨g, 0, none⟩) l.length cap := by
  rcases h.row.2 with ⟨_, q⟩ | ⟨g, cap, cur, q, _⟩
  · omega
  · exact ⟨g, cap, q⟩
end
theorem ids_swap {l : List En} {i k : Nat} {B : Int} (hi : i < l.length) (hk : k < l.length) (h : ∀ x ∈ l, x.id < B) : ∀ x ∈ Hep.swap l i k, x.id < B := fun x hx => h x ((Hep.swap_perm hi hk).mem_iff.1 hx)
end Go.Proofs.YtnmgcjkffeeapaaDoor
