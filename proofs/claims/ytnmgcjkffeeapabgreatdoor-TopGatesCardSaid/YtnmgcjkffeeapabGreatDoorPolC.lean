/- The contracts of policy's parts: misfire, breaker, retries, the first error. -/
import Derived.Test.YtnmgcjkffeeapabGreatDoorPolB
namespace Go.Proofs.YtnmgcjkffeeapabGreatDoor
open Go.RowKit
set_option linter.unusedVariables false
set_option linter.unusedSimpArgs false
def misE (k n : Int) : Int := if k = 3 then rl [inB n 1 100] else rl [inB k 0 2, n == 0]
theorem cmis_any (k n : Int) (w : World) : Calls Tryz.prog 75 #[.int .i64 k, .int .i64 n] w fun e w' => e = .returned (.int .i64 (misE k n)) ∧ Q w w' := by
  unfold misE
  by_cases a : k = 3
  · subst a
    rw [if_pos rfl]
    have k1 := fun w2 => inint_any n 1 100 w2
    obtain ⟨b1, hb1⟩ : ∃ x, inB n 1 100 = x := ⟨_, rfl⟩
    rw [hb1] at k1 ⊢
    clear hb1
    go_enter Tryz.func75, Tryz.ntmps75
    go_wp2_with (first
      | (go_at_call 73; refine (k1 _).mono ?_; rintro e w1 ⟨rfl, rfl⟩)
      | (go_at_call 70; refine (rule_any _ 1 [b1] 1 rfl (by decide) _ ?_).mono ?_; (exact bl_new _ _ (by simp) _ _ _ rfl); rintro e w2 ⟨rfl, q2⟩))
    go_ret
    exact ⟨rfl, ((Q.refl w).alloc _).trans q2⟩
  · rw [if_neg a]
    have y1 : (k == 3) = false := beq_f a
    clear a
    have k1 := fun w2 => inint_any k 0 2 w2
    obtain ⟨b1, hb1⟩ : ∃ x, inB k 0 2 = x := ⟨_, rfl⟩
    rw [hb1] at k1 ⊢
    clear hb1
    go_enter Tryz.func75, Tryz.ntmps75
    go_wp2_with (first
      | (go_at_call 73; refine (k1 _).mono ?_; rintro e w1 ⟨rfl, rfl⟩)
      | (go_at_call 70; refine (rule_any _ 2 [b1, n == 0] 2 rfl (by decide) _ ?_).mono ?_; (exact bl_new _ _ (by simp) _ _ _ rfl); rintro e w2 ⟨rfl, q2⟩))
    go_ret
    exact ⟨rfl, ((Q.refl w).alloc _).trans q2⟩
def brE (F O N : Int) : Int := if F = 0 ∧ O = 0 ∧ N = 0 then 0 else rl [inB F 1 100, inB O 1 68719476736, inB N 1 100]
set_option maxRecDepth 100000 in
theorem cbrk_any (F O N : Int) (w : World) : Calls Tryz.prog 76 #[.agg #[.int .i64 F, .int .i64 O, .int .i64 N]] w fun e w' => e = .returned (.int .i64 (brE F O N)) ∧ Q w w' := by
  unfold brE
  by_cases z : F = 0 ∧ O = 0 ∧ N = 0
  · obtain ⟨rfl, rfl, rfl⟩ := z
    rw [if_pos (by simp)]
    go_enter Tryz.func76, Tryz.ntmps76
    go_wp2
    go_ret
    exact ⟨rfl, (Q.refl _).alloc _⟩
  · rw [if_neg z]
    have k0 := fun w2 => inint_any F 1 100 w2
    obtain ⟨b0, hb0⟩ : ∃ x, inB F 1 100 = x := ⟨_, rfl⟩
    rw [hb0] at k0 ⊢
    have k1 := fun w2 => in64_any O 1 68719476736 w2
    obtain ⟨b1, hb1⟩ : ∃ x, inB O 1 68719476736 = x := ⟨_, rfl⟩
    rw [hb1] at k1 ⊢
    have k2 := fun w2 => inint_any N 1 100 w2
    obtain ⟨b2, hb2⟩ : ∃ x, inB N 1 100 = x := ⟨_, rfl⟩
    rw [hb2] at k2 ⊢
    clear hb0 hb1 hb2
    by_cases z0 : F = 0
    · have y0 : (F == 0) = true := beq_t z0
      have z : ¬ (O = 0 ∧ N = 0) := fun e => z (⟨z0, e⟩)
      clear z0
      by_cases z1 : O = 0
      · have y1 : (O == 0) = true := beq_t z1
        have z : ¬ (N = 0) := fun e => z (⟨z1, e⟩)
        clear z1
        have y2 : (N == 0) = false := beq_f z
        clear z
        go_enter Tryz.func76, Tryz.ntmps76
        go_wp2_with fail
        have c0 : (w.alloc (.cells #[.int .i64 F, .int .i64 O, .int .i64 N] 25)).cell? ⟨w.heap.size, 0, none⟩ = some (.int .i64 F) := by go_simp
        have c1 : (w.alloc (.cells #[.int .i64 F, .int .i64 O, .int .i64 N] 25)).cell? ⟨w.heap.size, 1, none⟩ = some (.int .i64 O) := by go_simp
        have c2 : (w.alloc (.cells #[.int .i64 F, .int .i64 O, .int .i64 N] 25)).cell? ⟨w.heap.size, 2, none⟩ = some (.int .i64 N) := by go_simp
        have q0 : Q w (w.alloc (.cells #[.int .i64 F, .int .i64 O, .int .i64 N] 25)) := (Q.refl w).alloc _
        generalize w.alloc (.cells #[.int .i64 F, .int .i64 O, .int .i64 N] 25) = W at *
        go_still_tail 9, (by kernel_rfl)
        still_call (still_of (k0 _))
        repeat still_step
        still_call (still_of (k1 _))
        repeat still_step
        still_call (still_of (k2 _))
        repeat still_step
        change wpList _ _ _ _ _ W.drew
        have q1 : Q w W.drew := q0.drew
        generalize W.drew = V at *
        go_wp2_with (go_at_call 70; refine (rule_any _ 3 [b0, b1, b2] 3 rfl (by decide) _ ?_).mono ?_; (exact bl_new _ _ (by simp) _ _ _ rfl); rintro e w2 ⟨rfl, q2⟩)
        go_ret
        exact ⟨rfl, (q1.alloc _).trans q2⟩
      · have y1 : (O == 0) = false := beq_f z1
        clear z z1
        go_enter Tryz.func76, Tryz.ntmps76
        go_wp2_with fail
        have c0 : (w.alloc (.cells #[.int .i64 F, .int .i64 O, .int .i64 N] 25)).cell? ⟨w.heap.size, 0, none⟩ = some (.int .i64 F) := by go_simp
        have c1 : (w.alloc (.cells #[.int .i64 F, .int .i64 O, .int .i64 N] 25)).cell? ⟨w.heap.size, 1, none⟩ = some (.int .i64 O) := by go_simp
        have c2 : (w.alloc (.cells #[.int .i64 F, .int .i64 O, .int .i64 N] 25)).cell? ⟨w.heap.size, 2, none⟩ = some (.int .i64 N) := by go_simp
        have q0 : Q w (w.alloc (.cells #[.int .i64 F, .int .i64 O, .int .i64 N] 25)) := (Q.refl w).alloc _
        generalize w.alloc (.cells #[.int .i64 F, .int .i64 O, .int .i64 N] 25) = W at *
        go_still_tail 9, (by kernel_rfl)
        still_call (still_of (k0 _))
        repeat still_step
        still_call (still_of (k1 _))
        repeat still_step
        still_call (still_of (k2 _))
        repeat still_step
        change wpList _ _ _ _ _ W.drew
        have q1 : Q w W.drew := q0.drew
        generalize W.drew = V at *
        go_wp2_with (go_at_call 70; refine (rule_any _ 3 [b0, b1, b2] 3 rfl (by decide) _ ?_).mono ?_; (exact bl_new _ _ (by simp) _ _ _ rfl); rintro e w2 ⟨rfl, q2⟩)
        go_ret
        exact ⟨rfl, (q1.alloc _).trans q2⟩
    · have y0 : (F == 0) = false := beq_f z0
      clear z z0
      go_enter Tryz.func76, Tryz.ntmps76
      go_wp2_with fail
      have c0 : (w.alloc (.cells #[.int .i64 F, .int .i64 O, .int .i64 N] 25)).cell? ⟨w.heap.size, 0, none⟩ = some (.int .i64 F) := by go_simp
      have c1 : (w.alloc (.cells #[.int .i64 F, .int .i64 O, .int .i64 N] 25)).cell? ⟨w.heap.size, 1, none⟩ = some (.int .i64 O) := by go_simp
      have c2 : (w.alloc (.cells #[.int .i64 F, .int .i64 O, .int .i64 N] 25)).cell? ⟨w.heap.size, 2, none⟩ = some (.int .i64 N) := by go_simp
      have q0 : Q w (w.alloc (.cells #[.int .i64 F, .int .i64 O, .int .i64 N] 25)) := (Q.refl w).alloc _
      generalize w.alloc (.cells #[.int .i64 F, .int .i64 O, .int .i64 N] 25) = W at *
      go_still_tail 9, (by kernel_rfl)
      still_call (still_of (k0 _))
      repeat still_step
      still_call (still_of (k1 _))
      repeat still_step
      still_call (still_of (k2 _))
      repeat still_step
      change wpList _ _ _ _ _ W.drew
      have q1 : Q w W.drew := q0.drew
      generalize W.drew = V at *
      go_wp2_with (go_at_call 70; refine (rule_any _ 3 [b0, b1, b2] 3 rfl (by decide) _ ?_).mono ?_; (exact bl_new _ _ (by simp) _ _ _ rfl); rintro e w2 ⟨rfl, q2⟩)
      go_ret
      exact ⟨rfl, (q1.alloc _).trans q2⟩
def reE (X B C J : Int) : Int := if X = 0 ∧ B = 0 ∧ C = 0 ∧ J = 0 then 0 else rl [inB X 1 20, inB B 1 68719476736, inB C B 68719476736, inB J 0 68719476736]
set_option maxRecDepth 100000 in
theorem cret_any (X B C J : Int) (w : World) : Calls Tryz.prog 77 #[.agg #[.int .i64 X, .int .i64 B, .int .i64 C, .int .i64 J]] w fun e w' => e = .returned (.int .i64 (reE X B C J)) ∧ Q w w' := by
  unfold reE
  by_cases z : X = 0 ∧ B = 0 ∧ C = 0 ∧ J = 0
  · obtain ⟨rfl, rfl, rfl, rfl⟩ := z
    rw [if_pos (by simp)]
    go_enter Tryz.func77, Tryz.ntmps77
    go_wp2
    go_ret
    exact ⟨rfl, (Q.refl _).alloc _⟩
  · rw [if_neg z]
    have k0 := fun w2 => inint_any X 1 20 w2
    obtain ⟨b0, hb0⟩ : ∃ x, inB X 1 20 = x := ⟨_, rfl⟩
    rw [hb0] at k0 ⊢
    have k1 := fun w2 => in64_any B 1 68719476736 w2
    obtain ⟨b1, hb1⟩ : ∃ x, inB B 1 68719476736 = x := ⟨_, rfl⟩
    rw [hb1] at k1 ⊢
    have k2 := fun w2 => in64_any C B 68719476736 w2
    obtain ⟨b2, hb2⟩ : ∃ x, inB C B 68719476736 = x := ⟨_, rfl⟩
    rw [hb2] at k2 ⊢
    have k3 := fun w2 => in64_any J 0 68719476736 w2
    obtain ⟨b3, hb3⟩ : ∃ x, inB J 0 68719476736 = x := ⟨_, rfl⟩
    rw [hb3] at k3 ⊢
    clear hb0 hb1 hb2 hb3
    by_cases z0 : X = 0
    · have y0 : (X == 0) = true := beq_t z0
      have z : ¬ (B = 0 ∧ C = 0 ∧ J = 0) := fun e => z (⟨z0, e⟩)
      clear z0
      by_cases z1 : B = 0
      · have y1 : (B == 0) = true := beq_t z1
        have z : ¬ (C = 0 ∧ J = 0) := fun e => z (⟨z1, e⟩)
        clear z1
        by_cases z2 : C = 0
        · have y2 : (C == 0) = true := beq_t z2
          have z : ¬ (J = 0) := fun e => z (⟨z2, e⟩)
          clear z2
          have y3 : (J == 0) = false := beq_f z
          clear z
          go_enter Tryz.func77, Tryz.ntmps77
          go_wp2_with fail
          have c0 : (w.alloc (.cells #[.int .i64 X, .int .i64 B, .int .i64 C, .int .i64 J] 27)).cell? ⟨w.heap.size, 0, none⟩ = some (.int .i64 X) := by go_simp
          have c1 : (w.alloc (.cells #[.int .i64 X, .int .i64 B, .int .i64 C, .int .i64 J] 27)).cell? ⟨w.heap.size, 1, none⟩ = some (.int .i64 B) := by go_simp
          have c2 : (w.alloc (.cells #[.int .i64 X, .int .i64 B, .int .i64 C, .int .i64 J] 27)).cell? ⟨w.heap.size, 2, none⟩ = some (.int .i64 C) := by go_simp
          have c3 : (w.alloc (.cells #[.int .i64 X, .int .i64 B, .int .i64 C, .int .i64 J] 27)).cell? ⟨w.heap.size, 3, none⟩ = some (.int .i64 J) := by go_simp
          have q0 : Q w (w.alloc (.cells #[.int .i64 X, .int .i64 B, .int .i64 C, .int .i64 J] 27)) := (Q.refl w).alloc _
          generalize w.alloc (.cells #[.int .i64 X, .int .i64 B, .int .i64 C, .int .i64 J] 27) = W at *
          go_still_tail 14, (by kernel_rfl)
          still_call (still_of (k0 _))
          repeat still_step
          still_call (still_of (k1 _))
          repeat still_step
          still_call (still_of (k2 _))
          repeat still_step
          still_call (still_of (k3 _))
          repeat still_step
          change wpList _ _ _ _ _ W.drew
          have q1 : Q w W.drew := q0.drew
          generalize W.drew = V at *
          go_wp2_with (go_at_call 70; refine (rule_any _ 4 [b0, b1, b2, b3] 4 rfl (by decide) _ ?_).mono ?_; (exact bl_new _ _ (by simp) _ _ _ rfl); rintro e w2 ⟨rfl, q2⟩)
          go_ret
          exact ⟨rfl, (q1.alloc _).trans q2⟩
        · have y2 : (C == 0) = false := beq_f z2
          clear z z2
          go_enter Tryz.func77, Tryz.ntmps77
          go_wp2_with fail
          have c0 : (w.alloc (.cells #[.int .i64 X, .int .i64 B, .int .i64 C, .int .i64 J] 27)).cell? ⟨w.heap.size, 0, none⟩ = some (.int .i64 X) := by go_simp
          have c1 : (w.alloc (.cells #[.int .i64 X, .int .i64 B, .int .i64 C, .int .i64 J] 27)).cell? ⟨w.heap.size, 1, none⟩ = some (.int .i64 B) := by go_simp
          have c2 : (w.alloc (.cells #[.int .i64 X, .int .i64 B, .int .i64 C, .int .i64 J] 27)).cell? ⟨w.heap.size, 2, none⟩ = some (.int .i64 C) := by go_simp
          have c3 : (w.alloc (.cells #[.int .i64 X, .int .i64 B, .int .i64 C, .int .i64 J] 27)).cell? ⟨w.heap.size, 3, none⟩ = some (.int .i64 J) := by go_simp
          have q0 : Q w (w.alloc (.cells #[.int .i64 X, .int .i64 B, .int .i64 C, .int .i64 J] 27)) := (Q.refl w).alloc _
          generalize w.alloc (.cells #[.int .i64 X, .int .i64 B, .int .i64 C, .int .i64 J] 27) = W at *
          go_still_tail 14, (by kernel_rfl)
          still_call (still_of (k0 _))
          repeat still_step
          still_call (still_of (k1 _))
          repeat still_step
          still_call (still_of (k2 _))
          repeat still_step
          still_call (still_of (k3 _))
          repeat still_step
          change wpList _ _ _ _ _ W.drew
          have q1 : Q w W.drew := q0.drew
          generalize W.drew = V at *
          go_wp2_with (go_at_call 70; refine (rule_any _ 4 [b0, b1, b2, b3] 4 rfl (by decide) _ ?_).mono ?_; (exact bl_new _ _ (by simp) _ _ _ rfl); rintro e w2 ⟨rfl, q2⟩)
          go_ret
          exact ⟨rfl, (q1.alloc _).trans q2⟩
      · have y1 : (B == 0) = false := beq_f z1
        clear z z1
        go_enter Tryz.func77, Tryz.ntmps77
        go_wp2_with fail
        have c0 : (w.alloc (.cells #[.int .i64 X, .int .i64 B, .int .i64 C, .int .i64 J] 27)).cell? ⟨w.heap.size, 0, none⟩ = some (.int .i64 X) := by go_simp
        have c1 : (w.alloc (.cells #[.int .i64 X, .int .i64 B, .int .i64 C, .int .i64 J] 27)).cell? ⟨w.heap.size, 1, none⟩ = some (.int .i64 B) := by go_simp
        have c2 : (w.alloc (.cells #[.int .i64 X, .int .i64 B, .int .i64 C, .int .i64 J] 27)).cell? ⟨w.heap.size, 2, none⟩ = some (.int .i64 C) := by go_simp
        have c3 : (w.alloc (.cells #[.int .i64 X, .int .i64 B, .int .i64 C, .int .i64 J] 27)).cell? ⟨w.heap.size, 3, none⟩ = some (.int .i64 J) := by go_simp
        have q0 : Q w (w.alloc (.cells #[.int .i64 X, .int .i64 B, .int .i64 C, .int .i64 J] 27)) := (Q.refl w).alloc _
        generalize w.alloc (.cells #[.int .i64 X, .int .i64 B, .int .i64 C, .int .i64 J] 27) = W at *
        go_still_tail 14, (by kernel_rfl)
        still_call (still_of (k0 _))
        repeat still_step
        still_call (still_of (k1 _))
        repeat still_step
        still_call (still_of (k2 _))
        repeat still_step
        still_call (still_of (k3 _))
        repeat still_step
        change wpList _ _ _ _ _ W.drew
        have q1 : Q w W.drew := q0.drew
        generalize W.drew = V at *
        go_wp2_with (go_at_call 70; refine (rule_any _ 4 [b0, b1, b2, b3] 4 rfl (by decide) _ ?_).mono ?_; (exact bl_new _ _ (by simp) _ _ _ rfl); rintro e w2 ⟨rfl, q2⟩)
        go_ret
        exact ⟨rfl, (q1.alloc _).trans q2⟩
    · have y0 : (X == 0) = false := beq_f z0
      clear z z0
      go_enter Tryz.func77, Tryz.ntmps77
      go_wp2_with fail
      have c0 : (w.alloc (.cells #[.int .i64 X, .int .i64 B, .int .i64 C, .int .i64 J] 27)).cell? ⟨w.heap.size, 0, none⟩ = some (.int .i64 X) := by go_simp
      have c1 : (w.alloc (.cells #[.int .i64 X, .int .i64 B, .int .i64 C, .int .i64 J] 27)).cell? ⟨w.heap.size, 1, none⟩ = some (.int .i64 B) := by go_simp
      have c2 : (w.alloc (.cells #[.int .i64 X, .int .i64 B, .int .i64 C, .int .i64 J] 27)).cell? ⟨w.heap.size, 2, none⟩ = some (.int .i64 C) := by go_simp
      have c3 : (w.alloc (.cells #[.int .i64 X, .int .i64 B, .int .i64 C, .int .i64 J] 27)).cell? ⟨w.heap.size, 3, none⟩ = some (.int .i64 J) := by go_simp
      have q0 : Q w (w.alloc (.cells #[.int .i64 X, .int .i64 B, .int .i64 C, .int .i64 J] 27)) := (Q.refl w).alloc _
      generalize w.alloc (.cells #[.int .i64 X, .int .i64 B, .int .i64 C, .int .i64 J] 27) = W at *
      go_still_tail 14, (by kernel_rfl)
      still_call (still_of (k0 _))
      repeat still_step
      still_call (still_of (k1 _))
      repeat still_step
      still_call (still_of (k2 _))
      repeat still_step
      still_call (still_of (k3 _))
      repeat still_step
      change wpList _ _ _ _ _ W.drew
      have q1 : Q w W.drew := q0.drew
      generalize W.drew = V at *
      go_wp2_with (go_at_call 70; refine (rule_any _ 4 [b0, b1, b2, b3] 4 rfl (by decide) _ ?_).mono ?_; (exact bl_new _ _ (by simp) _ _ _ rfl); rintro e w2 ⟨rfl, q2⟩)
      go_ret
      exact ⟨rfl, (q1.alloc _).trans q2⟩
/-- numbers in memory -/
def NlAt (b : Nat) (l : List Int) (w : World) : Prop := b < w.heap.size ∧ ∀ j, j < l.length → w.cell? ⟨b, j, none⟩ = some (.int .i64 (l.getD j 0))
theorem NlAt.q {b : Nat} {l : List Int} {w w' : World} (h : NlAt b l w) (q : Q w w') : NlAt b l w' :=
  ⟨Nat.lt_of_lt_of_le h.1 q.size, fun j hj => (q.cell (p := ⟨b, j, none⟩) h.1).trans (h.2 j hj)⟩
theorem nl_new (w : World) (b : Nat) (hb : b = w.heap.size) (l : List Int) (cs : Array Value) (t : TypeId) (h : cs = (l.map (Value.int .i64)).toArray) : NlAt b l (w.alloc (.cells cs t)) := by
  subst hb h
  refine ⟨by simp, fun j hj => ?_⟩
  rw [World.cell?]
  simp only [World.alloc_heap_new]
  simp [List.getD, hj]
/-- the first error of the first k, all of them none or that of a rule -/
def fsE (l : List Int) : Nat → Int
  | 0 => 0
  | k + 1 => if l.getD k 0 = 0 then fsE l k else 16
theorem fsE_zero {l : List Int} : ∀ {k : Nat}, fsE l k = 0 ↔ ∀ j, j < k → l.getD j 0 = 0
  | 0 => by simp [fsE]
  | k + 1 => by
    unfold fsE
    split
    · rename_i h
      rw [fsE_zero]
      constructor
      · intro g j hj
        rcases Nat.lt_or_ge j k with q | q
        · exact g j q
        · obtain rfl : j = k := by omega
          exact h
      · intro g j hj; exact g j (by omega)
    · rename_i h
      constructor
      · intro g; omega
      · intro g; exact absurd (g k (by omega)) h
theorem fsE_vals (l : List Int) : ∀ k, fsE l k = 0 ∨ fsE l k = 16
  | 0 => Or.inl rfl
  | k + 1 => by unfold fsE; split; exact fsE_vals l k; exact Or.inr rfl
theorem first_any (b c : Nat) (l : List Int) (n : Nat) (hn : l.length = n) (hb : n ≤ 1000) (hv : ∀ j, j < n → l.getD j 0 = 0 ∨ l.getD j 0 = 16) (w : World) (h : NlAt b l w) :
    Calls Tryz.prog 74 #[.slice (some ⟨b, 0, none⟩) n c] w fun e w' => e = .returned (.int .i64 (fsE l n)) ∧ Q w w' := by
  have hgi : goInt n = .int .i64 n := by simp [goInt]
  have HB := Lib.hid h
  have HN := Lib.hid hn
  have HV := Lib.hid hv
  clear h hn hv
  go_enter Tryz.func74, Tryz.ntmps74
  go_wp2_with fail
  go_loopw [3, 8] (fun vo vi wr => ∃ k : Nat, vi = .int .i64 k ∧ vo = .int .i64 (fsE l k) ∧ k ≤ n ∧ Q w wr) (fun _ vi _ => n - (intOf vi).toNat)
  case atStart => exact ⟨0, rfl, rfl, by omega, Q.refl _⟩
  case round =>
    obtain ⟨k, rfl, rfl, hk, hq⟩ := hrel
    rcases Nat.lt_or_ge k n with hlt | hge
    · have y1 : decide ((k : Int) < (n : Int)) = true := by simp; omega
      have y2 : (0 : Int) ≤ (k : Int) ∧ (k : Int) < (n : Int) := by omega
      have hc := (HB.out.q hq).2 k (by rw [HN.out]; exact hlt)
      have hstep : fsE l (k + 1) = if l.getD k 0 = 0 then fsE l k else 16 := rfl
      obtain ⟨s, hs⟩ : ∃ s, fsE l k = s := ⟨_, rfl⟩
      rw [hs] at hstep ⊢
      clear hs
      rcases HV.out k hlt with e | e
      · rw [e] at hc hstep
        rw [if_pos rfl] at hstep
        have HS := Lib.hid hstep
        clear hstep e
        go_wp2_with fail
        go_roundw
        case rel => exact ⟨k + 1, by go_num, by rw [HS.out], by omega, hq⟩
        case measure => simp [intOf]; omega
      · rw [e] at hc hstep
        rw [if_neg (by decide)] at hstep
        have HS := Lib.hid hstep
        clear hstep e
        go_wp2_with fail
        go_roundw
        case rel => exact ⟨k + 1, by go_num, by rw [HS.out], by omega, hq⟩
        case measure => simp [intOf]; omega
    · obtain rfl : n = k := by omega
      have y1 : decide ((n : Int) < (n : Int)) = false := by simp
      go_wp2_with fail
      go_ret
      exact ⟨rfl, hq⟩
end Go.Proofs.YtnmgcjkffeeapabGreatDoor
