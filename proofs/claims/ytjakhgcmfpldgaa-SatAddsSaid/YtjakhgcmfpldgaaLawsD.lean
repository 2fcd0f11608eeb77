/- The walk of the law SatOrder: it returns true. -/
import Derived.Test.YtjakhgcmfpldgaaLawsA
import Derived.Outline
namespace Go.Proofs.Ytjakhgcmfpldgaa
open Go.RowKit
set_option linter.unusedVariables false
/-- what sat.within reports -/
def withinB (a : Int) : Bool := decide (-4611686018427387904 ≤ a) && decide (a ≤ 4611686018427387904)
theorem within_any (a : Int) (w : World) : Calls Try.prog 28 #[.int .i64 a] w fun e w' => e = .returned (.bool (withinB a)) ∧ w = w' := by
  unfold withinB
  by_cases h1 : -4611686018427387904 ≤ a <;> by_cases h2 : a ≤ 4611686018427387904 <;>
  · simp only [h1, h2, decide_true, decide_false]
    go_enter Try.func28, Try.ntmps28
    go_wp2
    go_ret
    exact ⟨rfl, rfl⟩
theorem withinB_clip (a : Int) : withinB a = (Sat.clip a == a) := by
  unfold withinB
  rcases Sat.clip_three a with ⟨h, e⟩ | ⟨h, e⟩ | ⟨h, h', e⟩
  · rw [e, decide_eq_false (p := a ≤ _) (by omega), beq_f (by omega)]; simp
  · rw [e, decide_eq_false (p := _ ≤ a) (by omega), beq_f (by omega)]; simp
  · rw [e, decide_eq_true h, decide_eq_true h']; simp
theorem Q.cell {a b : World} (h : Q a b) {p : Addr} (hp : p.block < a.heap.size) : b.cell? p = a.cell? p := Below.cell h hp
theorem Q.size {a b : World} (h : Q a b) : a.heap.size ≤ b.heap.size := Below.size h
theorem satOrder_walk (a b c : Int) (wa : (Lit.int .i64 a).wf = true) (wb : (Lit.int .i64 b).wf = true) (wc : (Lit.int .i64 c).wf = true) (w : World) :
    Calls Try.prog 6 #[.int .i64 a, .int .i64 b, .int .i64 c] w fun e w' => e = .returned (.bool true) ∧ Q w w' := by
  have ha := bd64 wa
  have hb := bd64 wb
  have e1 : (Sat.add a b != Sat.add b a) = false := by rw [Sat.add_comm]; simp
  have e2 : (Sat.mul a b != Sat.mul b a) = false := by rw [Sat.mul_comm]; simp
  have e3 : (Sat.sub a b != -Sat.sub b a) = false := by rw [← Sat.sub_neg]; simp
  have b1 := Sat.sub_bd b a
  rw [Sat.never_def] at b1
  have hw : (withinB a == (Sat.clip a == a)) = true := by rw [withinB_clip]; simp
  have m1' : a ≤ b → decide (Sat.add b c < Sat.add a c) = false := fun h => decide_eq_false (by have := Sat.add_mono c h; omega)
  have m2' : b ≤ a → decide (Sat.add a c < Sat.add b c) = false := fun h => decide_eq_false (by have := Sat.add_mono c h; omega)
  have hthree : (a ≤ b ∧ b ≤ a ∧ decide (Sat.add b c < Sat.add a c) = false ∧ decide (Sat.add a c < Sat.add b c) = false) ∨ (a ≤ b ∧ ¬ b ≤ a ∧ decide (Sat.add b c < Sat.add a c) = false) ∨ (¬ a ≤ b ∧ b ≤ a ∧ decide (Sat.add a c < Sat.add b c) = false) := by
    by_cases h : a ≤ b
    · by_cases h' : b ≤ a
      · exact .inl ⟨h, h', m1' h, m2' h'⟩
      · exact .inr (.inl ⟨h, h', m1' h⟩)
    · exact .inr (.inr ⟨h, by omega, m2' (by omega)⟩)
  clear m1' m2'
  rcases hthree with ⟨hab, hba, m1, m2⟩ | ⟨hab, hba, m1⟩ | ⟨hab, hba, m2⟩
  all_goals
    go_enter Try.func6, Try.ntmps6
    go_wp2_with (first
      | (go_at_call 18; refine (add_any _ _ _).mono ?_; rintro e w1 ⟨rfl, rfl⟩)
      | (go_at_call 20; refine (sub_any _ _ _).mono ?_; rintro e w1 ⟨rfl, rfl⟩)
      | (go_at_call 16; refine (clip_any _ _).mono ?_; rintro e w1 ⟨rfl, rfl⟩)
      | (go_at_call 27; refine (mul_any _ _ _).mono ?_; rintro e w3 ⟨rfl, hq3⟩))
    have hQ : Q w (w3.alloc (.cells #[.int .i64 (Sat.clip a), .int .i64 (Sat.add a b), .int .i64 (Sat.sub a b), .int .i64 (Sat.mul a b)] 2)) := by
      repeat (first | exact Q.refl _ | assumption | refine Q.alloc ?_ _ | refine Q.trans ?_ (by assumption))
    go_loopw [74] (fun vi wr => ∃ k : Nat, k ≤ 4 ∧ vi = .int .i64 k ∧ Q (w3.alloc (.cells #[.int .i64 (Sat.clip a), .int .i64 (Sat.add a b), .int .i64 (Sat.sub a b), .int .i64 (Sat.mul a b)] 2)) wr) (fun vi _ => (4 - intOf vi).toNat)
    case atStart => exact ⟨0, by omega, rfl, Q.refl _⟩
    case round =>
      obtain ⟨k, hk, rfl, hq⟩ := hrel
      by_cases hlt : k < 4
      · obtain ⟨x, hx, hx1, hx2⟩ : ∃ x, wr.cell? ⟨w3.heap.size, k, none⟩ = some (.int .i64 x) ∧ -4611686018427387904 ≤ x ∧ x ≤ 4611686018427387904 := by
          have hcell : ∀ j, wr.cell? ⟨w3.heap.size, j, none⟩ = _ := fun j => hq.cell (p := ⟨w3.heap.size, j, none⟩) (by simp)
          have c1 := Sat.clip_num a
          have c2 := Sat.add_bd a b
          have c3 := Sat.sub_bd a b
          have c4 := Sat.mul_bd a b
          rw [Sat.never_def] at c2 c3 c4
          match k, hlt with
          | 0, _ => exact ⟨_, (hcell 0).trans (by simp), c1.1, c1.2⟩
          | 1, _ => exact ⟨_, (hcell 1).trans (by simp), c2.1, c2.2⟩
          | 2, _ => exact ⟨_, (hcell 2).trans (by simp), c3.1, c3.2⟩
          | 3, _ => exact ⟨_, (hcell 3).trans (by simp), c4.1, c4.2⟩
        have f1 : withinB x = true := by unfold withinB; rw [decide_eq_true hx1, decide_eq_true hx2]; rfl
        have f2 := Sat.clip_mid hx1 hx2
        have f3 : Sat.add x 0 = x := Sat.add_zero_clip (by rw [Sat.never_def]; omega)
        have f4 : Sat.mul x 1 = x := Sat.mul_one_clip (by rw [Sat.never_def]; omega)
        go_wp2_with (first
          | (go_at_call 18; refine (add_any _ _ _).mono ?_; rintro e w1 ⟨rfl, rfl⟩)
          | (go_at_call 28; refine (within_any _ _).mono ?_; rintro e w1 ⟨rfl, rfl⟩)
          | (go_at_call 16; refine (clip_any _ _).mono ?_; rintro e w1 ⟨rfl, rfl⟩)
          | (go_at_call 27; refine (mul_any _ _ _).mono ?_; rintro e w4 ⟨rfl, hq4⟩))
        go_roundw
        case rel => exact ⟨k + 1, by omega, by go_num, by repeat (first | assumption | refine Q.trans ?_ (by assumption))⟩
        case measure => simp [intOf]; omega
      · go_wp2_with (first
          | (go_at_call 28; refine (within_any _ _).mono ?_; rintro e w1 ⟨rfl, rfl⟩)
          | (go_at_call 16; refine (clip_any _ _).mono ?_; rintro e w1 ⟨rfl, rfl⟩)
          | (go_at_call 22; refine (works_any _).mono ?_; rintro e w5 ⟨rfl, hq5⟩))
        go_ret
        exact ⟨rfl, by repeat (first | exact Q.refl _ | assumption | refine Q.alloc ?_ _ | refine Q.trans ?_ (by assumption))⟩
end Go.Proofs.Ytjakhgcmfpldgaa
