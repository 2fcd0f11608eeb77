/- The law TopTimers. -/
import Derived.Test.YtnmgcjkffeeapaaDoorLwB
namespace Go.Proofs.YtnmgcjkffeeapaaDoor
open Go.RowKit
set_option linter.unusedVariables false
set_option linter.unusedSimpArgs false
/-- a slice of integers among the arguments -/
def IsRow (k : IntKind) (w : World) (a : Option Addr) (len cap : Nat) (zs : List Int) : Prop :=
  (a = none ∧ len = 0 ∧ cap = 0 ∧ zs = []) ∨
  ∃ x, a = some x ∧ len ≤ cap ∧ cap ≤ maxLen ∧ zs.length = cap ∧ (∀ i, i < zs.length → w.cell? (x.add i) = some (.int k (zs.getD i 0))) ∧ ∀ n ∈ zs, (Lit.int k n).wf = true
/-- its numbers, where it has any -/
def RowA (a : Option Addr) (len : Nat) (z : Nat → Nat) (w : World) : Prop := len = 0 ∨ ∃ b off, a = some ⟨b, off, none⟩ ∧ b < w.heap.size ∧ ∀ j, j < len → w.cell? ⟨b, off + j, none⟩ = some (.int .u32 (z j : Int)) ∧ z j < 4294967296
theorem bd32 {a : Int} (h : (Lit.int .u32 a).wf = true) : 0 ≤ a ∧ a ≤ 4294967295 := by
  have hmin : IntKind.u32.min = 0 := rfl
  have hmax : IntKind.u32.max = 4294967295 := rfl
  simp only [Lit.wf, Bool.and_eq_true, decide_eq_true_eq] at h; omega
theorem IsRow.row {w : World} {a : Option Addr} {len cap : Nat} {zs : List Int} (h : IsRow .u32 w a len cap zs) : RowA a len (fun j => (zs.getD j 0).toNat) w := by
  rcases h with ⟨rfl, rfl, rfl, rfl⟩ | ⟨x, rfl, h1, h2, h3, h4, h5⟩
  · exact Or.inl rfl
  · rcases Nat.eq_zero_or_pos len with h0 | h0
    · exact Or.inl h0
    · obtain ⟨b, off, spot⟩ := x
      have hspot : spot = none := by simpa [Addr.add] using World.cell?_spot (h4 0 (by omega))
      subst hspot
      have hc : ∀ r, r < len → w.cell? ⟨b, off + r, none⟩ = some (.int .u32 (zs.getD r 0)) := fun r hr => by rw [← Go.WideShapes.add_plain]; exact h4 r (by omega)
      refine Or.inr ⟨b, off, rfl, lt_of_cell (hc 0 h0), fun j hj => ?_⟩
      have hm : zs.getD j 0 ∈ zs := by
        rw [List.getD_eq_getElem?_getD, List.getElem?_eq_getElem (by omega)]
        exact List.getElem_mem _
      have hb := bd32 (h5 _ hm)
      refine ⟨?_, by show (zs.getD j 0).toNat < 4294967296; omega⟩
      rw [hc j hj]
      show some (Value.int .u32 (zs.getD j 0)) = some (.int .u32 (((zs.getD j 0).toNat : Nat) : Int))
      rw [Int.toNat_of_nonneg hb.1]
theorem RowA.q {a : Option Addr} {len : Nat} {z : Nat → Nat} {w w' : World} (h : RowA a len z w) (hq : Q w w') : RowA a len z w' := by
  rcases h with h | ⟨b, off, h1, h2, h3⟩
  · exact .inl h
  · exact .inr ⟨b, off, h1, Nat.lt_of_lt_of_le h2 hq.size, fun j hj => ⟨keepc hq (h3 j hj).1, (h3 j hj).2⟩⟩
set_option maxRecDepth 100000 in
theorem law_big (a0 : Int) (a1 a2 : Option Addr) (len1 cap1 len2 cap2 : Nat) (w : World) (hT : Tab w) (hb : 60 < len1 ∨ 10 < len2) :
    Calls Tryd.prog 3 #[.int .u32 a0, .slice a1 len1 cap1, .slice a2 len2 cap2] w fun e w' => e = .returned (.bool true) ∧ Q w w' := by
  have kw := works_ok w hT
  clear hT
  by_cases h1 : 60 < len1
  · have z1 : decide ((60 : Int) < (len1 : Int)) = true := decide_eq_true (by omega)
    clear hb h1
    go_enter Tryd.func3, Tryd.ntmps3
    go_wp2_with (go_at_call 4; (with_reducible refine kw.mono ?_); rintro e w1 ⟨rfl, hq⟩)
    go_ret
    exact ⟨rfl, hq⟩
  · have z1 : decide ((60 : Int) < (len1 : Int)) = false := decide_eq_false (by omega)
    have z2 : decide ((10 : Int) < (len2 : Int)) = true := decide_eq_true (by omega)
    clear hb h1
    go_enter Tryd.func3, Tryd.ntmps3
    go_wp2_with (go_at_call 4; (with_reducible refine kw.mono ?_); rintro e w1 ⟨rfl, hq⟩)
    go_ret
    exact ⟨rfl, hq⟩
/-- the timers so far -/
def Sk (k : Nat) : Nat → Bool := fun i => decide (i < k)
theorem sk_ins (k : Nat) : Whp.ins (Sk k) k = Sk (k + 1) := by
  funext i
  unfold Whp.ins Sk
  by_cases e : i = k
  · subst e; simp
  · rw [if_neg e]
    rw [Bool.eq_iff_iff, decide_eq_true_iff, decide_eq_true_iff]
    omega
theorem sk_zero : Sk 0 = fun _ => false := by funext i; simp [Sk]
def L1 (w0 : World) (W A Sb M H Mh len : Nat) (t : Nat → Nat) (now : Nat) (a : Value) (wr : World) : Prop := ∃ k : Nat, a = .int .i64 (k : Int) ∧ k ≤ len ∧ Lw w0 W A Sb M 60 H Mh k t now (now + 1) (Sk k) (Sk k) True wr
def L2 (w0 : World) (W A Sb M H Mh len1 len2 : Nat) (t : Nat → Nat) (now : Nat) (a b : Value) (wr : World) : Prop := ∃ (k τ : Nat) (S : Nat → Bool), a = .int .i64 (τ : Int) ∧ b = .int .i64 (k : Int) ∧ k ≤ len2 + 1 ∧ now ≤ τ ∧ τ ≤ now + k * 8589934592 ∧ Lw w0 W A Sb M 60 H Mh len1 t τ (τ + 1) S S False wr ∧ (∀ i, S i = true → i < len1) ∧ (k = len2 + 1 → ∀ i, S i = false)
end Go.Proofs.YtnmgcjkffeeapaaDoor
