/- What calls may do to the world: new blocks, draws, and one known block. -/
import Derived.Test.YtnmgcjkffeeapaaDoorProg
import Derived.WalkKit
import Derived.WalkLawsBesides
import Derived.OpenShut
import Derived.Lib.Hide
import Derived.RegionTactic
import Derived.Laws.StructEq
import Derived.Deep.QuietTactic
import Derived.BigQuiet
import Derived.Deep.RegionHeld3
import Derived.Deep.RegionWith
import Derived.Outline
import Derived.KernelRfl
import Derived.Laws.AppendOwn
import Derived.Laws.AppendOwnNone
import Derived.Laws.OwnMore
import Derived.WalkSmall
import Derived.Laws.EntriesVeiled
import Derived.IntWalk
import Derived.StillTailTactics
namespace Go.Proofs.YtnmgcjkffeeapaaDoor
open Go.RowKit
set_option linter.unusedVariables false
set_option linter.unusedSimpArgs false
/-- what calls may do to the world: new blocks and draws alone -/
def Q (w w' : World) : Prop := Below w.heap.size w w'
theorem Q.refl (w : World) : Q w w := Below.refl _ _
theorem Q.trans {a b c : World} (h : Q a b) (k : Q b c) : Q a c := Below.trans h (Below.mono k h.size)
theorem Q.drew {a b : World} (h : Q a b) : Q a b.drew := Below.drew h
theorem Q.drewN {a b : World} (h : Q a b) (n : Nat) : Q a (b.drewN n) := by
  unfold Q at *; exact ⟨h.os, h.tape, h.output, h.size, h.block⟩
theorem Q.alloc {a b : World} (h : Q a b) (o : Obj) : Q a (b.alloc o) := Below.alloc h h.size o
theorem Q.setCell {a b : World} (h : Q a b) {p : Addr} (hp : a.heap.size ≤ p.block) (u : Value) : Q a (b.setCell p u) := Below.setCell h hp u
theorem Q.cell {a b : World} (h : Q a b) {p : Addr} (hp : p.block < a.heap.size) : b.cell? p = a.cell? p := Below.cell h hp
theorem Q.size {a b : World} (h : Q a b) : a.heap.size ≤ b.heap.size := Below.size h
theorem Q.frozen {a b : World} (h : Q a b) {p : Addr} (hp : p.block < a.heap.size) : b.frozen? p = a.frozen? p := Below.frozen h hp
theorem Q.grown {a w w' : World} {row : Option Nat} (h : Q a w) (hg : w.grownBy w' row) (hr : ∀ k, row = some k → a.heap.size ≤ k) : Q a w' := Below.grown h hg h.size hr
/-- new blocks, draws, and the block b -/
def Fr (b : Nat) (w w' : World) : Prop := w'.os = w.os ∧ w'.tape = w.tape ∧ w'.output = w.output ∧ w.heap.size ≤ w'.heap.size ∧ ∀ j, j < w.heap.size → j ≠ b → w'.heap[j]? = w.heap[j]?
theorem Fr.ofQ {b : Nat} {w w' : World} (h : Q w w') : Fr b w w' := ⟨h.os, h.tape, h.output, h.size, fun j hj _ => h.block j hj⟩
theorem Fr.refl (b : Nat) (w : World) : Fr b w w := Fr.ofQ (Q.refl w)
theorem Fr.trans {d : Nat} {a b c : World} (h : Fr d a b) (k : Fr d b c) : Fr d a c := by
  obtain ⟨h1, h2, h3, h4, h5⟩ := h
  obtain ⟨k1, k2, k3, k4, k5⟩ := k
  exact ⟨k1.trans h1, k2.trans h2, k3.trans h3, by omega, fun j hj hb => (k5 j (by omega) hb).trans (h5 j hj hb)⟩
theorem Fr.thenQ {d : Nat} {a b c : World} (h : Fr d a b) (k : Q b c) : Fr d a c := h.trans (Fr.ofQ k)
theorem Fr.drew {d : Nat} {a b : World} (h : Fr d a b) : Fr d a b.drew := h.thenQ ((Q.refl b).drew)
theorem Fr.drewN {d : Nat} {a b : World} (h : Fr d a b) (n : Nat) : Fr d a (b.drewN n) := h.thenQ ((Q.refl b).drewN n)
theorem Fr.alloc {d : Nat} {a b : World} (h : Fr d a b) (o : Obj) : Fr d a (b.alloc o) := h.thenQ ((Q.refl b).alloc o)
theorem below_of {n d : Nat} {w w' : World} (h : Fr d w w') (hd : n ≤ d) (hn : n ≤ w.heap.size) : Below n w w' := by
  obtain ⟨h1, h2, h3, h4, h5⟩ := h
  exact ⟨h1, h2, h3, h4, fun j hj => h5 j (by omega) (by omega)⟩
theorem Fr.setCell {d : Nat} {a b : World} (h : Fr d a b) (o : Nat) (v : Value) : Fr d a (b.setCell ⟨d, o, none⟩ v) := by
  refine h.trans ?_
  have hb : Below 0 b (b.setCell ⟨d, o, none⟩ v) := (Below.refl 0 b).setCell (Nat.zero_le _) v
  refine ⟨hb.os, hb.tape, hb.output, hb.size, fun j hj hne => ?_⟩
  exact Below.heap_setCell _ _ _ _ hne
theorem Fr.cell {d : Nat} {w w' : World} (h : Fr d w w') {j : Nat} (hj : j < w.heap.size) (hne : j ≠ d) (o : Nat) : w'.cell? ⟨j, o, none⟩ = w.cell? ⟨j, o, none⟩ := by
  have := h.2.2.2.2 j hj hne
  simp only [World.cell?, this]
theorem Fr.frozen {d : Nat} {w w' : World} (h : Fr d w w') {j : Nat} (hj : j < w.heap.size) (hne : j ≠ d) (o : Nat) : w'.frozen? ⟨j, o, none⟩ = w.frozen? ⟨j, o, none⟩ := by
  have := h.2.2.2.2 j hj hne
  simp only [World.frozen?, this]
theorem qcell {W w1 : World} (hb : Q W w1) : (∀ b o, b < W.heap.size → w1.cell? ⟨b, o, none⟩ = W.cell? ⟨b, o, none⟩) ∧ (∀ b o, b < W.heap.size → w1.frozen? ⟨b, o, none⟩ = W.frozen? ⟨b, o, none⟩) ∧ W.heap.size ≤ w1.heap.size :=
  ⟨fun b o h => hb.cell (p := ⟨b, o, none⟩) h, fun b o h => hb.frozen (p := ⟨b, o, none⟩) h, hb.size⟩
theorem lt_of_cell {w : World} {p : Addr} {v : Value} (h : w.cell? p = some v) : p.block < w.heap.size := by
  rcases Nat.lt_or_ge p.block w.heap.size with q | q
  · exact q
  · exfalso
    have hz : w.heap[p.block]? = none := by simp [q]
    simp only [World.cell?, hz] at h
    cases h
theorem ret_int {k : IntKind} {a b : Int} (h : a = b) : Ending.returned (.int k a) = .returned (.int k b) := by rw [h]
theorem ret_bool {a b : Bool} (h : a = b) : Ending.returned (.bool a) = .returned (.bool b) := by rw [h]
theorem val_int {k : IntKind} {a b : Int} (h : a = b) : Value.int k a = .int k b := by rw [h]
theorem beq_t {a b : Int} (h : a = b) : (a == b) = true := beq_iff_eq.2 h
theorem beq_f {a b : Int} (h : a ≠ b) : (a == b) = false := beq_eq_false_iff_ne.2 h
theorem bne_t {a b : Int} (h : a ≠ b) : (a != b) = true := bne_iff_ne.2 h
theorem bne_f {a b : Int} (h : a = b) : (a != b) = false := by rw [h]; simp
theorem bd64 {a : Int} (h : (Lit.int .i64 a).wf = true) : -9223372036854775808 ≤ a ∧ a ≤ 9223372036854775807 := by
  have hmin : IntKind.i64.min = -9223372036854775808 := rfl
  have hmax : IntKind.i64.max = 9223372036854775807 := rfl
  simp only [Lit.wf, Bool.and_eq_true, decide_eq_true_eq] at h; omega
/-- new blocks, draws, and the blocks S -/
def Fs (S : List Nat) (w w' : World) : Prop := w'.os = w.os ∧ w'.tape = w.tape ∧ w'.output = w.output ∧ w.heap.size ≤ w'.heap.size ∧ ∀ j, j < w.heap.size → j ∉ S → w'.heap[j]? = w.heap[j]?
theorem Fs.ofQ {S : List Nat} {w w' : World} (h : Q w w') : Fs S w w' := ⟨h.os, h.tape, h.output, h.size, fun j hj _ => h.block j hj⟩
theorem Fs.refl (S : List Nat) (w : World) : Fs S w w := Fs.ofQ (Q.refl w)
theorem Fs.ofFr {S : List Nat} {b : Nat} {w w' : World} (h : Fr b w w') (hb : b ∈ S) : Fs S w w' := ⟨h.1, h.2.1, h.2.2.1, h.2.2.2.1, fun j hj hn => h.2.2.2.2 j hj (fun e => hn (e ▸ hb))⟩
theorem Fs.trans {S : List Nat} {a b c : World} (h : Fs S a b) (k : Fs S b c) : Fs S a c := by
  obtain ⟨h1, h2, h3, h4, h5⟩ := h
  obtain ⟨k1, k2, k3, k4, k5⟩ := k
  exact ⟨k1.trans h1, k2.trans h2, k3.trans h3, by omega, fun j hj hb => (k5 j (by omega) hb).trans (h5 j hj hb)⟩
theorem Fs.thenQ {S : List Nat} {a b c : World} (h : Fs S a b) (k : Q b c) : Fs S a c := h.trans (Fs.ofQ k)
theorem Fs.size {S : List Nat} {w w' : World} (h : Fs S w w') : w.heap.size ≤ w'.heap.size := h.2.2.2.1
theorem Fs.mono {S T : List Nat} {w w' : World} (h : Fs S w w') (hs : ∀ b ∈ S, b ∈ T) : Fs T w w' := ⟨h.1, h.2.1, h.2.2.1, h.2.2.2.1, fun j hj hn => h.2.2.2.2 j hj (fun e => hn (hs j e))⟩
theorem Fs.cell {S : List Nat} {w w' : World} (h : Fs S w w') {j : Nat} (hj : j < w.heap.size) (hne : j ∉ S) (o : Nat) : w'.cell? ⟨j, o, none⟩ = w.cell? ⟨j, o, none⟩ := by
  have := h.2.2.2.2 j hj hne
  simp only [World.cell?, this]
theorem Fs.frozen {S : List Nat} {w w' : World} (h : Fs S w w') {j : Nat} (hj : j < w.heap.size) (hne : j ∉ S) (o : Nat) : w'.frozen? ⟨j, o, none⟩ = w.frozen? ⟨j, o, none⟩ := by
  have := h.2.2.2.2 j hj hne
  simp only [World.frozen?, this]
theorem keepc {W w1 : World} {p : Addr} {v : Value} (q : Q W w1) (c : W.cell? p = some v) : w1.cell? p = some v := (q.cell (lt_of_cell c)).trans c
theorem size_heap_alloc' (w : World) (o : Obj) : (w.alloc o).heap.size = w.heap.size + 1 := by simp
theorem cell_new1 (w : World) (v : Value) (t : TypeId) : (w.alloc (.cells #[v] t)).cell? ⟨w.heap.size, 0, none⟩ = some v := by
  rw [World.cell?]
  simp only [heap_alloc_new]
  rfl
theorem sc_ne (w : World) (G k j : Nat) (v : Value) (h : j ≠ k) : (w.setCell ⟨G, j, none⟩ v).cell? ⟨G, k, none⟩ = w.cell? ⟨G, k, none⟩ := World.cell?_setCell_other _ _ _ _ (by simp [h])
theorem Q.fs {S : List Nat} {a b c : World} (h : Q a b) (k : Fs S b c) (hs : ∀ j ∈ S, a.heap.size ≤ j) : Q a c := by
  obtain ⟨k1, k2, k3, k4, k5⟩ := k
  refine ⟨k1.trans h.os, k2.trans h.tape, k3.trans h.output, Nat.le_trans h.size k4, fun j hj => ?_⟩
  exact (k5 j (Nat.lt_of_lt_of_le hj h.size) (fun hm => by have := hs j hm; omega)).trans (h.block j hj)
end Go.Proofs.YtnmgcjkffeeapaaDoor
