/- The contracts of policy's parts. -/
import Derived.Test.YtnmgcjkffeeapabGreatDoorPolA
namespace Go.Proofs.YtnmgcjkffeeapabGreatDoor
open Go.RowKit
set_option linter.unusedVariables false
set_option linter.unusedSimpArgs false
def M36 : Int := 68719476736
def limE (T U : Int) : Int := rl [inB T 0 68719476736, inB U 0 68719476736, decide (0 < T) || (U == 0)]
theorem limE_zero {T U : Int} : limE T U = 0 ↔ VL T U := by
  unfold limE rl VL
  split
  · rename_i h
    simp [inB_iff] at h
    simp
    exact ⟨h.1, h.2.1, h.2.2⟩
  · rename_i h
    constructor
    · intro g; omega
    · intro g
      exfalso
      apply h
      simp [inB_iff]
      exact ⟨g.1, g.2.1, g.2.2⟩
set_option maxRecDepth 100000 in
theorem clim_any (T U : Int) (w : World) : Calls Tryz.prog 62 #[.agg #[.int .i64 T, .int .i64 U]] w fun e w' => e = .returned (.int .i64 (limE T U)) ∧ Q w w' := by
  have k1 := fun w2 => in64_any T 0 68719476736 w2
  have k2 := fun w2 => in64_any U 0 68719476736 w2
  unfold limE
  obtain ⟨b1, hb1⟩ : ∃ x, inB T 0 68719476736 = x := ⟨_, rfl⟩
  obtain ⟨b2, hb2⟩ : ∃ x, inB U 0 68719476736 = x := ⟨_, rfl⟩
  rw [hb1] at k1 ⊢
  rw [hb2] at k2 ⊢
  clear hb1 hb2
  by_cases a : 0 < T
  · have y1 : decide (0 < T) = true := by simp; omega
    rw [y1, Bool.true_or]
    go_enter Tryz.func62, Tryz.ntmps62
    go_wp2_with fail
    have c0 : (w.alloc (.cells #[.int .i64 T, .int .i64 U] 23)).cell? ⟨w.heap.size, 0, none⟩ = some (.int .i64 T) := by go_simp
    have c1 : (w.alloc (.cells #[.int .i64 T, .int .i64 U] 23)).cell? ⟨w.heap.size, 1, none⟩ = some (.int .i64 U) := by go_simp
    have q0 : Q w (w.alloc (.cells #[.int .i64 T, .int .i64 U] 23)) := (Q.refl w).alloc _
    generalize w.alloc (.cells #[.int .i64 T, .int .i64 U] 23) = W at *
    go_still_tail 14, (by kernel_rfl)
    still_call (still_of (k1 _))
    repeat still_step
    still_call (still_of (k2 _))
    repeat still_step
    change wpList _ _ _ _ _ W.drew
    have q1 : Q w W.drew := q0.drew
    generalize W.drew = V at *
    go_wp2_with (go_at_call 70; refine (rule_any _ 3 [b1, b2, true] 3 rfl (by decide) _ ?_).mono ?_; (exact bl_new _ _ (by simp) _ _ _ rfl); rintro e w2 ⟨rfl, q2⟩)
    go_ret
    exact ⟨rfl, (q1.alloc _).trans q2⟩
  · have y1 : decide (0 < T) = false := by simp; omega
    rw [y1, Bool.false_or]
    cases hu : (U == 0) with
    | false =>
      go_enter Tryz.func62, Tryz.ntmps62
      go_wp2_with fail
      have c0 : (w.alloc (.cells #[.int .i64 T, .int .i64 U] 23)).cell? ⟨w.heap.size, 0, none⟩ = some (.int .i64 T) := by go_simp
      have c1 : (w.alloc (.cells #[.int .i64 T, .int .i64 U] 23)).cell? ⟨w.heap.size, 1, none⟩ = some (.int .i64 U) := by go_simp
      have q0 : Q w (w.alloc (.cells #[.int .i64 T, .int .i64 U] 23)) := (Q.refl w).alloc _
      generalize w.alloc (.cells #[.int .i64 T, .int .i64 U] 23) = W at *
      go_still_tail 14, (by kernel_rfl)
      still_call (still_of (k1 _))
      repeat still_step
      still_call (still_of (k2 _))
      repeat still_step
      change wpList _ _ _ _ _ W.drew
      have q1 : Q w W.drew := q0.drew
      generalize W.drew = V at *
      go_wp2_with (go_at_call 70; refine (rule_any _ 3 [b1, b2, false] 3 rfl (by decide) _ ?_).mono ?_; (exact bl_new _ _ (by simp) _ _ _ rfl); rintro e w2 ⟨rfl, q2⟩)
      go_ret
      exact ⟨rfl, (q1.alloc _).trans q2⟩
    | true =>
      go_enter Tryz.func62, Tryz.ntmps62
      go_wp2_with fail
      have c0 : (w.alloc (.cells #[.int .i64 T, .int .i64 U] 23)).cell? ⟨w.heap.size, 0, none⟩ = some (.int .i64 T) := by go_simp
      have c1 : (w.alloc (.cells #[.int .i64 T, .int .i64 U] 23)).cell? ⟨w.heap.size, 1, none⟩ = some (.int .i64 U) := by go_simp
      have q0 : Q w (w.alloc (.cells #[.int .i64 T, .int .i64 U] 23)) := (Q.refl w).alloc _
      generalize w.alloc (.cells #[.int .i64 T, .int .i64 U] 23) = W at *
      go_still_tail 14, (by kernel_rfl)
      still_call (still_of (k1 _))
      repeat still_step
      still_call (still_of (k2 _))
      repeat still_step
      change wpList _ _ _ _ _ W.drew
      have q1 : Q w W.drew := q0.drew
      generalize W.drew = V at *
      go_wp2_with (go_at_call 70; refine (rule_any _ 3 [b1, b2, true] 3 rfl (by decide) _ ?_).mono ?_; (exact bl_new _ _ (by simp) _ _ _ rfl); rintro e w2 ⟨rfl, q2⟩)
      go_ret
      exact ⟨rfl, (q1.alloc _).trans q2⟩
end Go.Proofs.YtnmgcjkffeeapabGreatDoor
