/- The contract of breaker.New. -/
import Derived.Test.YtnmgcjkffeeapabGreatDoorBox
namespace Go.Proofs.YtnmgcjkffeeapabGreatDoor
open Go.RowKit
set_option linter.unusedVariables false
set_option linter.unusedSimpArgs false
/-- a valid rule of a breaker -/
def VB (F O N : Int) : Prop := (F = 0 ∧ O = 0 ∧ N = 0) ∨ ((1 ≤ F ∧ F ≤ 100) ∧ (1 ≤ O ∧ O ≤ 68719476736) ∧ (1 ≤ N ∧ N ≤ 100))
theorem bin_any (n m : Int) (h : 1 ≤ n ∧ n ≤ m) (w : World) : Calls Tryz.prog 25 #[.int .i64 n, .int .i64 m] w fun e w' => e = .returned (.bool true) ∧ w = w' := by
  go_enter Tryz.func25, Tryz.ntmps25
  go_wp2
  go_ret
  exact ⟨rfl, rfl⟩
def Bx.fresh (F O N : Int) : Bx := ⟨F, O, N, false, 0, 0, 0, 0, 0⟩
theorem bnew_ok (F O N : Int) (h : VB F O N) (w : World) : Calls Tryz.prog 8 #[.agg #[.int .i64 F, .int .i64 O, .int .i64 N]] w fun e w' => ∃ b, e = .returned (.tuple #[.pointer (some ⟨b, 0, none⟩), .int .i64 0]) ∧ w.heap.size ≤ b ∧ BxAt b (Bx.fresh F O N) w' ∧ Q w w' := by
  unfold Bx.fresh
  rcases h with ⟨rfl, rfl, rfl⟩ | ⟨h1, h2, h3⟩
  · go_enter Tryz.func8, Tryz.ntmps8
    go_wp2_with fail
    go_ret2
    refine ⟨_, rfl, ?_, ⟨?_, ?_, ?_, ?_, ?_, ?_, ?_, ?_, ?_, ?_, ?_, ?_, ?_, ?_, ?_, ?_, ?_, ?_, ?_, ?_⟩, ((Q.refl _).alloc _).alloc _⟩
    · simp
    all_goals go_simp
  · have k1 := fun w2 => bin_any F 100 h1 w2
    have k2 := fun w2 => bin_any O 68719476736 h2 w2
    have k3 := fun w2 => bin_any N 100 h3 w2
    have y1 : (F == 0) = false := beq_f (by omega)
    clear h1 h2 h3
    go_enter Tryz.func8, Tryz.ntmps8
    go_wp2_with (first
      | (go_at_call 25; with_reducible refine (k1 _).mono ?_; rintro e w1 ⟨rfl, rfl⟩)
      | (go_at_call 25; with_reducible refine (k2 _).mono ?_; rintro e w1 ⟨rfl, rfl⟩)
      | (go_at_call 25; with_reducible refine (k3 _).mono ?_; rintro e w1 ⟨rfl, rfl⟩))
    go_ret2
    refine ⟨_, rfl, ?_, ⟨?_, ?_, ?_, ?_, ?_, ?_, ?_, ?_, ?_, ?_, ?_, ?_, ?_, ?_, ?_, ?_, ?_, ?_, ?_, ?_⟩, ((Q.refl _).alloc _).alloc _⟩
    · simp
    all_goals go_simp
end Go.Proofs.YtnmgcjkffeeapabGreatDoor
