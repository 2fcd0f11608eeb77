/- The walk of the law CivilMonths. -/
import Derived.Test.YtdhlgmclogdplaaDoorTxtN
namespace Go.Proofs.YtdhlgmclogdplaaDoor
open Go.RowKit
set_option linter.unusedVariables false
set_option linter.unusedSimpArgs false
set_option maxRecDepth 20000 in
set_option maxHeartbeats 4000000 in
theorem months_core (W K y m n A Z F L B ny nm : Int) (lp : Bool) (hW : 0 ≤ W ∧ W ≤ 65535) (hK : 0 ≤ K ∧ K ≤ 255) (ey : 1970 + W % 8030 = y) (em : 1 + K % 12 = m)
    (hn : 28 ≤ n ∧ n ≤ 31) (hA : 0 ≤ A ∧ A ≤ 3000000) (hZ : Z = A + n - 1) (hF : 0 ≤ F ∧ F ≤ 3000000) (hL : L = F + (if lp then 365 else 364)) (hB : B = A + n)
    (hnx : (m = 12 ∧ ny = y + 1 ∧ nm = 1) ∨ (m ≤ 11 ∧ ny = y ∧ nm = m + 1))
    (k1 : ∀ w2, Calls Tryd.prog 28 #[.int .i64 y, .int .i64 m] w2 fun e w' => e = .returned (.tuple #[.int .i64 (n), .int .i64 0]) ∧ w2 = w')
    (k2 : ∀ w2, Calls Tryd.prog 27 #[.int .i64 y, .int .i64 m, .int .i64 1] w2 fun e w' => e = .returned (.tuple #[.int .i64 (A), .int .i64 0]) ∧ w2 = w')
    (k3 : ∀ w2, Calls Tryd.prog 27 #[.int .i64 y, .int .i64 m, .int .i64 n] w2 fun e w' => e = .returned (.tuple #[.int .i64 (Z), .int .i64 0]) ∧ w2 = w')
    (k4 : ∀ w2, Calls Tryd.prog 27 #[.int .i64 y, .int .i64 m, .int .i64 (n + 1)] w2 fun e w' => e = .returned (.tuple #[.int .i64 (0), .int .i64 2]) ∧ w2 = w')
    (k5 : ∀ w2, Calls Tryd.prog 27 #[.int .i64 y, .int .i64 m, .int .i64 0] w2 fun e w' => e = .returned (.tuple #[.int .i64 (0), .int .i64 2]) ∧ w2 = w')
    (k6 : ∀ w2, Calls Tryd.prog 27 #[.int .i64 y, .int .i64 1, .int .i64 1] w2 fun e w' => e = .returned (.tuple #[.int .i64 (F), .int .i64 0]) ∧ w2 = w')
    (k7 : ∀ w2, Calls Tryd.prog 27 #[.int .i64 y, .int .i64 12, .int .i64 31] w2 fun e w' => e = .returned (.tuple #[.int .i64 (L), .int .i64 0]) ∧ w2 = w')
    (k8 : ∀ w2, Calls Tryd.prog 31 #[.int .i64 y] w2 fun e w' => e = .returned (.bool lp) ∧ w2 = w')
    (k9 : ¬ (y = 9999 ∧ m = 12) → ∀ w2, Calls Tryd.prog 27 #[.int .i64 ny, .int .i64 nm, .int .i64 1] w2 fun e w' => e = .returned (.tuple #[.int .i64 (B), .int .i64 0]) ∧ w2 = w') (w : World) (hT : Tab w) :
    Calls Tryd.prog 11 #[.int .u16 W, .int .u8 K] w fun e w' => e = .returned (.bool true) ∧ Q w w' := by
  have hy : 1970 ≤ y ∧ y ≤ 9999 := by omega
  have hm : 1 ≤ m ∧ m ≤ 12 := by omega
  have y1 : (Z != A + n - 1) = false := bne_f hZ
  have y2 : (B == A + n) = true := beq_t hB
  have hZb : 0 ≤ Z ∧ Z ≤ 3000031 := by omega
  have hBb : 0 ≤ B ∧ B ≤ 3000031 := by omega
  have hLb : 0 ≤ L ∧ L ≤ 3000365 := by rw [hL]; split <;> omega
  have y3 : lp = true → (L - F + 1 != 366) = false := fun h => bne_f (by rw [hL, h]; simp; omega)
  have y4 : lp = false → (L - F + 1 != 365) = false := fun h => bne_f (by rw [hL, h]; simp; omega)
  have c1 : IntKind.i64.wrap (A + n) = A + n := by rw [IntKind.wrap_i64]; omega
  clear hZ hL hB
  by_cases hlast : m ≤ 11
  · have h9 : (y == 9999 && m == 12) = false := by
      rw [Bool.eq_false_iff]; intro hc; simp only [Bool.and_eq_true, beq_iff_eq] at hc; omega
    have k9 := k9 (by omega)
    obtain ⟨_, rfl, rfl⟩ : m ≤ 11 ∧ y = ny ∧ m + 1 = nm := by omega
    have h12 : (m == 12) = false := beq_f (by omega)
    have hd : decide (12 < m + 1) = false := by simp; omega
    clear hnx h9
    cases lp
    all_goals
      first
        | (have y5 := y4 rfl)
        | (have y5 := y3 rfl)
      clear y3 y4
      by_cases hy9 : y = 9999
      all_goals
        first
          | (have hy8 : (y == 9999) = true := beq_t hy9; clear hy9)
          | (have hy8 : (y == 9999) = false := beq_f hy9; clear hy9)
        go_enter Tryd.func11, Tryd.ntmps11
        go_wp2_with (first
      | (go_at_call 28; with_reducible refine (k1 _).mono ?_; rintro e w1 ⟨rfl, rfl⟩)
      | (go_at_call 27; with_reducible refine (k2 _).mono ?_; rintro e w1 ⟨rfl, rfl⟩)
      | (go_at_call 27; with_reducible refine (k3 _).mono ?_; rintro e w1 ⟨rfl, rfl⟩)
      | (go_at_call 27; with_reducible refine (k4 _).mono ?_; rintro e w1 ⟨rfl, rfl⟩)
      | (go_at_call 27; with_reducible refine (k5 _).mono ?_; rintro e w1 ⟨rfl, rfl⟩)
      | (go_at_call 27; with_reducible refine (k6 _).mono ?_; rintro e w1 ⟨rfl, rfl⟩)
      | (go_at_call 27; with_reducible refine (k7 _).mono ?_; rintro e w1 ⟨rfl, rfl⟩)
      | (go_at_call 31; with_reducible refine (k8 _).mono ?_; rintro e w1 ⟨rfl, rfl⟩)
      | (go_at_call 27; with_reducible refine (k9 _).mono ?_; rintro e w1 ⟨rfl, rfl⟩)
      | (go_at_call 17; refine (works_any _ (Tab.later hT (by repeat (first | exact Q.refl _ | assumption | refine Q.alloc ?_ _ | refine Q.drew ?_ | refine Q.drewN ?_ _ | refine Q.setCell ?_ (Q.size (by assumption)) _ | refine Q.trans ?_ (by assumption))))).mono ?_; rintro e w9 ⟨rfl, hq9⟩))
        go_ret
        exact ⟨rfl, by repeat (first | exact Q.refl _ | assumption | refine Q.alloc ?_ _ | refine Q.drew ?_ | refine Q.drewN ?_ _ | refine Q.setCell ?_ (Q.size (by assumption)) _ | refine Q.trans ?_ (by assumption))⟩
  · obtain ⟨he, rfl, rfl⟩ : m = 12 ∧ y + 1 = ny ∧ 1 = nm := by omega
    have h12 : (m == 12) = true := beq_t he
    have h13 : 12 ≤ m := by omega
    have hd : decide (12 < m + 1) = true := by simp; omega
    by_cases hy9 : y = 9999
    · have hy8 : (y == 9999) = true := beq_t hy9
      clear hnx hlast he hy9 k9
      cases lp
      all_goals
        first
          | (have y5 := y4 rfl)
          | (have y5 := y3 rfl)
        clear y3 y4
        go_enter Tryd.func11, Tryd.ntmps11
        go_wp2_with (first
      | (go_at_call 28; with_reducible refine (k1 _).mono ?_; rintro e w1 ⟨rfl, rfl⟩)
      | (go_at_call 27; with_reducible refine (k2 _).mono ?_; rintro e w1 ⟨rfl, rfl⟩)
      | (go_at_call 27; with_reducible refine (k3 _).mono ?_; rintro e w1 ⟨rfl, rfl⟩)
      | (go_at_call 27; with_reducible refine (k4 _).mono ?_; rintro e w1 ⟨rfl, rfl⟩)
      | (go_at_call 27; with_reducible refine (k5 _).mono ?_; rintro e w1 ⟨rfl, rfl⟩)
      | (go_at_call 27; with_reducible refine (k6 _).mono ?_; rintro e w1 ⟨rfl, rfl⟩)
      | (go_at_call 27; with_reducible refine (k7 _).mono ?_; rintro e w1 ⟨rfl, rfl⟩)
      | (go_at_call 31; with_reducible refine (k8 _).mono ?_; rintro e w1 ⟨rfl, rfl⟩)

      | (go_at_call 17; refine (works_any _ (Tab.later hT (by repeat (first | exact Q.refl _ | assumption | refine Q.alloc ?_ _ | refine Q.drew ?_ | refine Q.drewN ?_ _ | refine Q.setCell ?_ (Q.size (by assumption)) _ | refine Q.trans ?_ (by assumption))))).mono ?_; rintro e w9 ⟨rfl, hq9⟩))
        go_ret
        exact ⟨rfl, by repeat (first | exact Q.refl _ | assumption | refine Q.alloc ?_ _ | refine Q.drew ?_ | refine Q.drewN ?_ _ | refine Q.setCell ?_ (Q.size (by assumption)) _ | refine Q.trans ?_ (by assumption))⟩
    · have hy8 : (y == 9999) = false := beq_f hy9
      have k9 := k9 (by omega)
      have hy7 : y ≤ 9998 := by omega
      clear hnx hlast he hy9
      cases lp
      all_goals
        first
          | (have y5 := y4 rfl)
          | (have y5 := y3 rfl)
        clear y3 y4
        go_enter Tryd.func11, Tryd.ntmps11
        go_wp2_with (first
      | (go_at_call 28; with_reducible refine (k1 _).mono ?_; rintro e w1 ⟨rfl, rfl⟩)
      | (go_at_call 27; with_reducible refine (k2 _).mono ?_; rintro e w1 ⟨rfl, rfl⟩)
      | (go_at_call 27; with_reducible refine (k3 _).mono ?_; rintro e w1 ⟨rfl, rfl⟩)
      | (go_at_call 27; with_reducible refine (k4 _).mono ?_; rintro e w1 ⟨rfl, rfl⟩)
      | (go_at_call 27; with_reducible refine (k5 _).mono ?_; rintro e w1 ⟨rfl, rfl⟩)
      | (go_at_call 27; with_reducible refine (k6 _).mono ?_; rintro e w1 ⟨rfl, rfl⟩)
      | (go_at_call 27; with_reducible refine (k7 _).mono ?_; rintro e w1 ⟨rfl, rfl⟩)
      | (go_at_call 31; with_reducible refine (k8 _).mono ?_; rintro e w1 ⟨rfl, rfl⟩)
      | (go_at_call 27; with_reducible refine (k9 _).mono ?_; rintro e w1 ⟨rfl, rfl⟩)
      | (go_at_call 17; refine (works_any _ (Tab.later hT (by repeat (first | exact Q.refl _ | assumption | refine Q.alloc ?_ _ | refine Q.drew ?_ | refine Q.drewN ?_ _ | refine Q.setCell ?_ (Q.size (by assumption)) _ | refine Q.trans ?_ (by assumption))))).mono ?_; rintro e w9 ⟨rfl, hq9⟩))
        go_ret
        exact ⟨rfl, by repeat (first | exact Q.refl _ | assumption | refine Q.alloc ?_ _ | refine Q.drew ?_ | refine Q.drewN ?_ _ | refine Q.setCell ?_ (Q.size (by assumption)) _ | refine Q.trans ?_ (by assumption))⟩
theorem bd16 {a : Int} (h : (Lit.int .u16 a).wf = true) : 0 ≤ a ∧ a ≤ 65535 := by
  have hmin : IntKind.u16.min = 0 := rfl
  have hmax : IntKind.u16.max = 65535 := rfl
  simp only [Lit.wf, Bool.and_eq_true, decide_eq_true_eq] at h; omega
theorem bd8 {a : Int} (h : (Lit.int .u8 a).wf = true) : 0 ≤ a ∧ a ≤ 255 := by
  have hmin : IntKind.u8.min = 0 := rfl
  have hmax : IntKind.u8.max = 255 := rfl
  simp only [Lit.wf, Bool.and_eq_true, decide_eq_true_eq] at h; omega
theorem civilMonths_walk (W K : Int) (w0 : (Lit.int .u16 W).wf = true) (w1 : (Lit.int .u8 K).wf = true) (w : World) (hT : Tab w) :
    Calls Tryd.prog 11 #[.int .u16 W, .int .u8 K] w fun e w' => e = .returned (.bool true) ∧ Q w w' := by
  have hW := bd16 w0
  have hK := bd8 w1
  clear w0 w1
  obtain ⟨y, hy⟩ : ∃ x, 1970 + W % 8030 = x := ⟨_, rfl⟩
  obtain ⟨m, hm⟩ : ∃ x, 1 + K % 12 = x := ⟨_, rfl⟩
  have b1 : 1970 ≤ y ∧ y ≤ 9999 := by omega
  have b2 : 1 ≤ m ∧ m ≤ 12 := by omega
  have db := Cal.dim_bd y m
  have d1 := Cal.dim_bd y 1
  have d12 : Cal.dim y 12 = 31 := rfl
  have v1 : Cal.Valid y m 1 := ⟨b1.1, b1.2, b2.1, b2.2, by omega, by omega⟩
  have v2 : Cal.Valid y m (Cal.dim y m) := ⟨b1.1, b1.2, b2.1, b2.2, by omega, by omega⟩
  have v3 : ¬ Cal.Valid y m (Cal.dim y m + 1) := fun h => by have := h.2.2.2.2.2; omega
  have v4 : ¬ Cal.Valid y m 0 := fun h => by have := h.2.2.2.2.1; omega
  have v5 : Cal.Valid y 1 1 := ⟨b1.1, b1.2, by omega, by omega, by omega, by omega⟩
  have v6 : Cal.Valid y 12 31 := ⟨b1.1, b1.2, by omega, by omega, by omega, by omega⟩
  have r1 := Cal.num_range v1
  have r5 := Cal.num_range v5
  have yr := Cal.num_year y
  by_cases hl : m ≤ 11
  · refine months_core W K y m (Cal.dim y m) (Cal.num y m 1) (Cal.num y m (Cal.dim y m)) (Cal.num y 1 1) (Cal.num y 12 31) (Cal.num y (m + 1) 1) y (m + 1) (Cal.leap y) hW hK hy hm db (by omega) (Cal.num_last y m) (by omega) ?_ (Cal.num_next b2.1 hl) (Or.inr ⟨hl, rfl, rfl⟩) (len_good y m b1 b2) (days_good _ _ _ v1) (days_good _ _ _ v2) (days_bad _ _ _ v3) (days_bad _ _ _ v4) (days_good _ _ _ v5) (days_good _ _ _ v6) (leap_any y) (fun _ => days_good _ _ _ ⟨b1.1, b1.2, by omega, by omega, by omega, by have := Cal.dim_bd y (m + 1); omega⟩) w hT
    unfold Cal.lp at yr; split <;> simp_all <;> omega
  · have hm12 : m = 12 := by omega
    have e2 := Cal.num_turn y
    rw [← hm12] at e2
    refine months_core W K y m (Cal.dim y m) (Cal.num y m 1) (Cal.num y m (Cal.dim y m)) (Cal.num y 1 1) (Cal.num y 12 31) (Cal.num (y + 1) 1 1) (y + 1) 1 (Cal.leap y) hW hK hy hm db (by omega) (Cal.num_last y m) (by omega) ?_ e2 (Or.inl ⟨hm12, rfl, rfl⟩) (len_good y m b1 b2) (days_good _ _ _ v1) (days_good _ _ _ v2) (days_bad _ _ _ v3) (days_bad _ _ _ v4) (days_good _ _ _ v5) (days_good _ _ _ v6) (leap_any y) (fun h => days_good _ _ _ ⟨by omega, by omega, by omega, by omega, by omega, by have := Cal.dim_bd (y + 1) 1; omega⟩) w hT
    unfold Cal.lp at yr; split <;> simp_all <;> omega
end Go.Proofs.YtdhlgmclogdplaaDoor
