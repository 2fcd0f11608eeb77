/- What the law TopGates holds while its loop runs. -/
import Derived.Test.YtnmgcjkffeeapabGreatDoorLawA
namespace Go.Proofs.YtnmgcjkffeeapabGreatDoor
open Go.RowKit
set_option linter.unusedVariables false
set_option linter.unusedSimpArgs false
/-- the boxes of the policy and of the limit -/
structure PoAt (P L : Nat) (cap T U F O N T2 U2 : Int) (w : World) : Prop where
  c0 : w.cell? ⟨P, 0, none⟩ = some (.int .i64 cap)
  c6 : w.cell? ⟨P, 6, none⟩ = some (.int .i64 T)
  c7 : w.cell? ⟨P, 7, none⟩ = some (.int .i64 U)
  c8 : w.cell? ⟨P, 8, none⟩ = some (.int .i64 F)
  c9 : w.cell? ⟨P, 9, none⟩ = some (.int .i64 O)
  c10 : w.cell? ⟨P, 10, none⟩ = some (.int .i64 N)
  l0 : w.cell? ⟨L, 0, none⟩ = some (.int .i64 T2)
  l1 : w.cell? ⟨L, 1, none⟩ = some (.int .i64 U2)
theorem PoAt.q {P L : Nat} {cap T U F O N T2 U2 : Int} {w w' : World} (h : PoAt P L cap T U F O N T2 U2 w) (q : Q w w') : PoAt P L cap T U F O N T2 U2 w' :=
  ⟨keepc q h.c0, keepc q h.c6, keepc q h.c7, keepc q h.c8, keepc q h.c9, keepc q h.c10, keepc q h.l0, keepc q h.l1⟩
theorem po_new (cap pri spl dea mis kee T U F O N X B C J T2 U2 : Int) (w : World) : PoAt w.heap.size (w.heap.size + 1) cap T U F O N T2 U2 ((w.alloc (.cells #[.int .i64 cap, .int .i64 pri, .int .i64 spl, .int .i64 dea, .int .i64 mis, .int .i64 kee, .int .i64 T, .int .i64 U, .int .i64 F, .int .i64 O, .int .i64 N, .int .i64 X, .int .i64 B, .int .i64 C, .int .i64 J] 29)).alloc (.cells #[.int .i64 T2, .int .i64 U2] 23)) := by
  have h1 : ∀ k v, (#[Value.int .i64 cap, Value.int .i64 pri, Value.int .i64 spl, Value.int .i64 dea, Value.int .i64 mis, Value.int .i64 kee, Value.int .i64 T, Value.int .i64 U, Value.int .i64 F, Value.int .i64 O, Value.int .i64 N, Value.int .i64 X, Value.int .i64 B, Value.int .i64 C, Value.int .i64 J] : Array Value)[k]? = some v → ((w.alloc (.cells #[.int .i64 cap, .int .i64 pri, .int .i64 spl, .int .i64 dea, .int .i64 mis, .int .i64 kee, .int .i64 T, .int .i64 U, .int .i64 F, .int .i64 O, .int .i64 N, .int .i64 X, .int .i64 B, .int .i64 C, .int .i64 J] 29)).alloc (.cells #[.int .i64 T2, .int .i64 U2] 23)).cell? ⟨w.heap.size, k, none⟩ = some v := by
    intro k v hk
    refine keepc ((Q.refl _).alloc _) ?_
    rw [World.cell?]; simp only [heap_alloc_new]; exact hk
  have e := size_heap_alloc' w (.cells #[.int .i64 cap, .int .i64 pri, .int .i64 spl, .int .i64 dea, .int .i64 mis, .int .i64 kee, .int .i64 T, .int .i64 U, .int .i64 F, .int .i64 O, .int .i64 N, .int .i64 X, .int .i64 B, .int .i64 C, .int .i64 J] 29)
  have h2 := cell2_0 (w.alloc (.cells #[.int .i64 cap, .int .i64 pri, .int .i64 spl, .int .i64 dea, .int .i64 mis, .int .i64 kee, .int .i64 T, .int .i64 U, .int .i64 F, .int .i64 O, .int .i64 N, .int .i64 X, .int .i64 B, .int .i64 C, .int .i64 J] 29)) (.int .i64 T2) (.int .i64 U2) 23
  have h3 := cell2_1 (w.alloc (.cells #[.int .i64 cap, .int .i64 pri, .int .i64 spl, .int .i64 dea, .int .i64 mis, .int .i64 kee, .int .i64 T, .int .i64 U, .int .i64 F, .int .i64 O, .int .i64 N, .int .i64 X, .int .i64 B, .int .i64 C, .int .i64 J] 29)) (.int .i64 T2) (.int .i64 U2) 23
  rw [e] at h2 h3
  exact ⟨h1 0 _ rfl, h1 6 _ rfl, h1 7 _ rfl, h1 8 _ rfl, h1 9 _ rfl, h1 10 _ rfl, h2, h3⟩
/-- the gate, and each of its parts by itself, in one state -/
structure LoopAt (p : Pl) (K A B X P : Nat) (cap : Int) (x : Ga) (n now : Int) (w0 w : World) : Prop where
  g : GaAt p x w
  k : CaAt K x.ca w
  a : LiAt A x.la w
  b : LiAt B x.lj w
  v : BxAt X x.bx w
  cp : w.cell? ⟨P, 0, none⟩ = some (.int .i64 cap)
  q : Q w0 w
  ok : GaOk x n now
  al : x.ca.all = 3
  mo : x.ca.most = cap
  nd : (p.all ++ [K, A, B, X, P]).Nodup
  ge : ∀ b ∈ p.all ++ [K, A, B, X, P], w0.heap.size ≤ b
theorem LoopAt.q' {p : Pl} {K A B X P : Nat} {cap : Int} {x : Ga} {n now : Int} {w0 w w' : World} (h : LoopAt p K A B X P cap x n now w0 w) (q : Q w w') : LoopAt p K A B X P cap x n now w0 w' :=
  ⟨h.g.q q, h.k.q q, h.a.q q, h.b.q q, h.v.q q, keepc q h.cp, h.q.trans q, h.ok, h.al, h.mo, h.nd, h.ge⟩
/-- the loop's relation -/
def LoopRel (p : Pl) (K A B X P : Nat) (cap : Int) (len : Nat) (w0 : World) (s18 s19 : Value) (w : World) : Prop := ∃ i : Nat, ∃ x : Ga, ∃ now : Int, s19 = .int .i64 i ∧ s18 = .int .i64 now ∧ i ≤ len ∧ now ≤ 15 * i ∧ LoopAt p K A B X P cap x ((i : Int) + 1) now w0 w
/-- the steps -/
def StepsAt (a : Option Addr) (len : Nat) (zs : List Int) (w : World) : Prop := len = 0 ∨ ∃ b off, a = some ⟨b, off, none⟩ ∧ b < w.heap.size ∧ ∀ j, j < len → w.cell? ⟨b, off + j, none⟩ = some (.int .u8 (zs.getD j 0)) ∧ 0 ≤ zs.getD j 0 ∧ zs.getD j 0 ≤ 255
theorem pol_parts {cap pri spl dea mis kee T U F O N X B C J : Int} (h : polE cap pri spl dea mis kee T U F O N X B C J = 0) : VL T U ∧ VB F O N ∧ 0 ≤ cap := by
  have hf := fsE_zero.1 h
  have h0 : fieE cap pri spl dea = 0 := hf 0 (by decide)
  have h2 : limE T U = 0 := hf 2 (by decide)
  have h3 : brE F O N = 0 := hf 3 (by decide)
  refine ⟨limE_zero.1 h2, ?_, ?_⟩
  · unfold brE at h3
    unfold VB
    split at h3
    · exact Or.inl (by assumption)
    · right
      unfold rl at h3
      split at h3
      · rename_i hh
        simp [inB_iff] at hh
        omega
      · cases h3
  · unfold fieE rl at h0
    split at h0
    · rename_i hh
      simp [inB_iff] at hh
      omega
    · cases h0
end Go.Proofs.YtnmgcjkffeeapabGreatDoor
