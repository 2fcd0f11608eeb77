/- What admit.New lays, by parts. -/
import Derived.Test.YtnmgcjkffeeapabGreatDoorGatC
import Derived.Test.YtnmgcjkffeeapabGreatDoorCfgD
import Derived.Test.YtnmgcjkffeeapabGreatDoorCapsN
import Derived.Test.YtnmgcjkffeeapabGreatDoorBoxN
import Derived.Deep.RegionHeld3
namespace Go.Proofs.YtnmgcjkffeeapabGreatDoor
open Go.RowKit
set_option linter.unusedVariables false
set_option linter.unusedSimpArgs false
theorem keepf {W w1 : World} {p : Addr} (q : Q W w1) (hp : p.block < W.heap.size) (c : W.frozen? p = false) : w1.frozen? p = false := (q.frozen hp).trans c
/-- the configuration, its jobs, and the list of caps -/
structure Cf (K J E : Nat) (js : List Value) (T U cap : Int) (w : World) : Prop where
  c5 : w.cell? ⟨K, 5, none⟩ = some (.int .i64 T)
  c6 : w.cell? ⟨K, 6, none⟩ = some (.int .i64 U)
  c7 : w.cell? ⟨K, 7, none⟩ = some (.slice (some ⟨J, 0, none⟩) 1 1)
  j : w.rangeAt J 0 js
  e : w.cell? ⟨E, 0, none⟩ = some (.int .i64 cap)
  jl : J < w.heap.size
theorem Cf.fr {K J E b : Nat} {js : List Value} {T U cap : Int} {w w' : World} (h : Cf K J E js T U cap w) (hf : Fr b w w') (hK : K ≠ b) (hJ : J ≠ b) (hE : E ≠ b) : Cf K J E js T U cap w' := by
  have k1 := lt_of_cell h.c5
  have k2 := lt_of_cell h.e
  have k3 := hf.2.2.2.1
  have k4 := h.jl
  exact ⟨(hf.cell k1 hK 5).trans h.c5, (hf.cell k1 hK 6).trans h.c6, (hf.cell k1 hK 7).trans h.c7, range_fr h.j h.jl hf hJ, (hf.cell k2 hE 0).trans h.e, by omega⟩
theorem Cf.q {K J E : Nat} {js : List Value} {T U cap : Int} {w w' : World} (h : Cf K J E js T U cap w) (q : Q w w') : Cf K J E js T U cap w' := by
  have k1 := lt_of_cell h.c5
  have k2 := lt_of_cell h.e
  have k4 := h.jl
  dsimp only at k1 k2
  exact h.fr (b := w.heap.size) (Fr.ofQ q) (by omega) (by omega) (by omega)
/-- the gate's own block -/
structure Gt (G : Nat) (gc : Int) (v0 v2 v3 ve : Value) (w : World) : Prop where
  g0 : w.cell? ⟨G, 0, none⟩ = some v0
  g1 : w.cell? ⟨G, 1, none⟩ = some (.int .i64 gc)
  g2 : w.cell? ⟨G, 2, none⟩ = some v2
  g3 : w.cell? ⟨G, 3, none⟩ = some v3
  g4 : w.cell? ⟨G, 4, none⟩ = some ve
  g5 : w.cell? ⟨G, 5, none⟩ = some (.int .i64 0)
  f0 : w.frozen? ⟨G, 0, none⟩ = false
  f2 : w.frozen? ⟨G, 2, none⟩ = false
  f3 : w.frozen? ⟨G, 3, none⟩ = false
  f5 : w.frozen? ⟨G, 5, none⟩ = false
theorem Gt.lt {G : Nat} {gc : Int} {v0 v2 v3 ve : Value} {w : World} (h : Gt G gc v0 v2 v3 ve w) : G < w.heap.size := lt_of_cell h.g0
theorem Gt.fr {G b : Nat} {gc : Int} {v0 v2 v3 ve : Value} {w w' : World} (h : Gt G gc v0 v2 v3 ve w) (hf : Fr b w w') (hG : G ≠ b) : Gt G gc v0 v2 v3 ve w' := by
  have hl := h.lt
  exact ⟨(hf.cell hl hG 0).trans h.g0, (hf.cell hl hG 1).trans h.g1, (hf.cell hl hG 2).trans h.g2, (hf.cell hl hG 3).trans h.g3, (hf.cell hl hG 4).trans h.g4, (hf.cell hl hG 5).trans h.g5, (hf.frozen hl hG 0).trans h.f0, (hf.frozen hl hG 2).trans h.f2, (hf.frozen hl hG 3).trans h.f3, (hf.frozen hl hG 5).trans h.f5⟩
theorem Gt.q {G : Nat} {gc : Int} {v0 v2 v3 ve : Value} {w w' : World} (h : Gt G gc v0 v2 v3 ve w) (q : Q w w') : Gt G gc v0 v2 v3 ve w' := h.fr (b := w.heap.size) (Fr.ofQ q) (by have := h.lt; omega)
theorem sc_ne (w : World) (G k j : Nat) (v : Value) (h : j ≠ k) : (w.setCell ⟨G, j, none⟩ v).cell? ⟨G, k, none⟩ = w.cell? ⟨G, k, none⟩ := World.cell?_setCell_other _ _ _ _ (by simp [h])
theorem Gt.s0 {G : Nat} {gc : Int} {v0 v2 v3 ve : Value} {w : World} (h : Gt G gc v0 v2 v3 ve w) (v : Value) : Gt G gc v v2 v3 ve (w.setCell ⟨G, 0, none⟩ v) :=
  ⟨World.cell?_setCell_same _ _ _ h.g0, (sc_ne _ _ _ _ _ (by decide)).trans h.g1, (sc_ne _ _ _ _ _ (by decide)).trans h.g2, (sc_ne _ _ _ _ _ (by decide)).trans h.g3, (sc_ne _ _ _ _ _ (by decide)).trans h.g4, (sc_ne _ _ _ _ _ (by decide)).trans h.g5, by rw [World.frozen?_setCell]; exact h.f0, by rw [World.frozen?_setCell]; exact h.f2, by rw [World.frozen?_setCell]; exact h.f3, by rw [World.frozen?_setCell]; exact h.f5⟩
theorem Gt.s2 {G : Nat} {gc : Int} {v0 v2 v3 ve : Value} {w : World} (h : Gt G gc v0 v2 v3 ve w) (v : Value) : Gt G gc v0 v v3 ve (w.setCell ⟨G, 2, none⟩ v) :=
  ⟨(sc_ne _ _ _ _ _ (by decide)).trans h.g0, (sc_ne _ _ _ _ _ (by decide)).trans h.g1, World.cell?_setCell_same _ _ _ h.g2, (sc_ne _ _ _ _ _ (by decide)).trans h.g3, (sc_ne _ _ _ _ _ (by decide)).trans h.g4, (sc_ne _ _ _ _ _ (by decide)).trans h.g5, by rw [World.frozen?_setCell]; exact h.f0, by rw [World.frozen?_setCell]; exact h.f2, by rw [World.frozen?_setCell]; exact h.f3, by rw [World.frozen?_setCell]; exact h.f5⟩
theorem Gt.s3 {G : Nat} {gc : Int} {v0 v2 v3 ve : Value} {w : World} (h : Gt G gc v0 v2 v3 ve w) (v : Value) : Gt G gc v0 v2 v ve (w.setCell ⟨G, 3, none⟩ v) :=
  ⟨(sc_ne _ _ _ _ _ (by decide)).trans h.g0, (sc_ne _ _ _ _ _ (by decide)).trans h.g1, (sc_ne _ _ _ _ _ (by decide)).trans h.g2, World.cell?_setCell_same _ _ _ h.g3, (sc_ne _ _ _ _ _ (by decide)).trans h.g4, (sc_ne _ _ _ _ _ (by decide)).trans h.g5, by rw [World.frozen?_setCell]; exact h.f0, by rw [World.frozen?_setCell]; exact h.f2, by rw [World.frozen?_setCell]; exact h.f3, by rw [World.frozen?_setCell]; exact h.f5⟩
theorem gt_new (w : World) (gc : Int) (ve : Value) : Gt w.heap.size gc (.pointer none) (.pointer none) (.slice none 0 0) ve (w.alloc (.cells #[.pointer none, .int .i64 gc, .pointer none, .slice none 0 0, ve, .int .i64 0] 77)) := by
  refine ⟨?_, ?_, ?_, ?_, ?_, ?_, ?_, ?_, ?_, ?_⟩ <;> simp only [World.cell?, World.frozen?, heap_alloc_new] <;> rfl
/-- a door's block -/
structure Dr (d : Nat) (v0 v1 : Value) (w : World) : Prop where
  d0 : w.cell? ⟨d, 0, none⟩ = some v0
  d1 : w.cell? ⟨d, 1, none⟩ = some v1
  f0 : w.frozen? ⟨d, 0, none⟩ = false
  f1 : w.frozen? ⟨d, 1, none⟩ = false
theorem Dr.lt {d : Nat} {v0 v1 : Value} {w : World} (h : Dr d v0 v1 w) : d < w.heap.size := lt_of_cell h.d0
theorem Dr.fr {d b : Nat} {v0 v1 : Value} {w w' : World} (h : Dr d v0 v1 w) (hf : Fr b w w') (hd : d ≠ b) : Dr d v0 v1 w' :=
  ⟨(hf.cell h.lt hd 0).trans h.d0, (hf.cell h.lt hd 1).trans h.d1, (hf.frozen h.lt hd 0).trans h.f0, (hf.frozen h.lt hd 1).trans h.f1⟩
theorem Dr.q {d : Nat} {v0 v1 : Value} {w w' : World} (h : Dr d v0 v1 w) (q : Q w w') : Dr d v0 v1 w' := h.fr (b := w.heap.size) (Fr.ofQ q) (by have := h.lt; omega)
theorem Dr.s0 {d : Nat} {v0 v1 : Value} {w : World} (h : Dr d v0 v1 w) (v : Value) : Dr d v v1 (w.setCell ⟨d, 0, none⟩ v) :=
  ⟨World.cell?_setCell_same _ _ _ h.d0, (sc_ne _ _ _ _ _ (by decide)).trans h.d1, by rw [World.frozen?_setCell]; exact h.f0, by rw [World.frozen?_setCell]; exact h.f1⟩
theorem Dr.s1 {d : Nat} {v0 v1 : Value} {w : World} (h : Dr d v0 v1 w) (v : Value) : Dr d v0 v (w.setCell ⟨d, 1, none⟩ v) :=
  ⟨(sc_ne _ _ _ _ _ (by decide)).trans h.d0, World.cell?_setCell_same _ _ _ h.d1, by rw [World.frozen?_setCell]; exact h.f0, by rw [World.frozen?_setCell]; exact h.f1⟩
theorem dr_new (w : World) (v0 v1 : Value) (t : TypeId) : Dr w.heap.size v0 v1 (w.alloc (.cells #[v0, v1] t)) := by
  refine ⟨?_, ?_, ?_, ?_⟩ <;> simp only [World.cell?, World.frozen?, heap_alloc_new] <;> rfl
theorem own2 {w : World} {base : Nat} {v : Value} {x y : Value} (h : w.ownsRow base 79 2 v 1 [x, y]) : ∃ g c, v = .slice (some ⟨g, 0, none⟩) 1 c ∧ base ≤ g ∧ w.cell? ⟨g, 0, none⟩ = some x ∧ w.cell? ⟨g, 1, none⟩ = some y := by
  obtain ⟨h1, h2 | ⟨g, c, cur, h3, h4, h5, h6, h7, h8, h9⟩⟩ := h
  · omega
  · subst h3
    have k := World.ownsRow.cells (w := w) (base := base) (e := 79) (size := 2) (v := .slice (some ⟨g, 0, none⟩) 1 c) (n := 1) (xs := [x, y]) ⟨h1, .inr ⟨g, c, cur, rfl, h4, h5, h6, h7, h8, h9⟩⟩ rfl
    exact ⟨g, c, rfl, h4, by simpa [Addr.add_mid] using k 0 _ rfl, by simpa [Addr.add_mid] using k 1 _ rfl⟩
theorem news2 (w : World) (x y : Value) (t : TypeId) : ∀ j u, [x, y][j]? = some u → (w.alloc (.cells #[x, y] t)).cell? ((⟨w.heap.size, 0, none⟩ : Addr).add j) = some u := by
  intro j u hj
  match j, hj with
  | 0, hj =>
    rw [Addr.add_mid, World.cell?]
    simp only [heap_alloc_new]
    simpa using hj
  | 1, hj =>
    rw [Addr.add_mid, World.cell?]
    simp only [heap_alloc_new]
    simpa using hj
theorem info79 : (Tryz.prog.info? 79).map (fun i => (i.zero, i.size, i.bytes)) = some (some (.agg #[.pointer none, .pointer none]), 2, 16) := by kernel_rfl
end Go.Proofs.YtnmgcjkffeeapabGreatDoor
