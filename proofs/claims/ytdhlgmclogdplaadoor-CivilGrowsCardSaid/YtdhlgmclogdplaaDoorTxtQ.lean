/- The walks of the laws CivilGrows, CivilOrders. -/
import Derived.Test.YtdhlgmclogdplaaDoorTxtN
import Derived.Test.YtdhlgmclogdplaaDoorTxtO
namespace Go.Proofs.YtdhlgmclogdplaaDoor
open Go.RowKit
set_option linter.unusedVariables false
set_option linter.unusedSimpArgs false
theorem order_val {l m : List Int} {v : Int} {a b c d e f a' b' c' d' e' f' : Int} (hv : Cal.cmpL (Cal.fl a b c d e f) (Cal.fl a' b' c' d' e' f') = v) (w : World) :
    Calls Tryd.prog 34 #[.agg #[.int .i64 a, .int .i64 b, .int .i64 c, .int .i64 d, .int .i64 e, .int .i64 f], .agg #[.int .i64 a', .int .i64 b', .int .i64 c', .int .i64 d', .int .i64 e', .int .i64 f']] w fun z w' => z = .returned (.int .i64 v) ∧ Q w w' := by
  subst hv; exact order_any a b c d e f a' b' c' d' e' f' w
/-- both are times: the walk, out of what the calls answer -/
theorem grows_core (t u : Int) (a0 a1 a2 a3 a4 a5 b0 b1 b2 b3 b4 b5 : Int) (X Y : ByteArray) (O : Int)
    (k1 : ∀ w2, Calls Tryd.prog 18 #[.int .i64 t] w2 fun e w' => e = .returned (.tuple #[.agg #[.int .i64 a0, .int .i64 a1, .int .i64 a2, .int .i64 a3, .int .i64 a4, .int .i64 a5], .int .i64 0]) ∧ Q w2 w')
    (k2 : ∀ w2, Calls Tryd.prog 18 #[.int .i64 u] w2 fun e w' => e = .returned (.tuple #[.agg #[.int .i64 b0, .int .i64 b1, .int .i64 b2, .int .i64 b3, .int .i64 b4, .int .i64 b5], .int .i64 0]) ∧ Q w2 w')
    (k3 : ∀ w2, Tab w2 → Calls Tryd.prog 22 #[.int .i64 t] w2 fun e w' => e = .returned (.tuple #[.string X, .int .i64 0]) ∧ Q w2 w')
    (k4 : ∀ w2, Tab w2 → Calls Tryd.prog 22 #[.int .i64 u] w2 fun e w' => e = .returned (.tuple #[.string Y, .int .i64 0]) ∧ Q w2 w')
    (k5 : ∀ w2, Calls Tryd.prog 34 #[.agg #[.int .i64 a0, .int .i64 a1, .int .i64 a2, .int .i64 a3, .int .i64 a4, .int .i64 a5], .agg #[.int .i64 b0, .int .i64 b1, .int .i64 b2, .int .i64 b3, .int .i64 b4, .int .i64 b5]] w2 fun e w' => e = .returned (.int .i64 O) ∧ Q w2 w')
    (hc : (t < u ∧ O = -1 ∧ Op.bytesLess X.toList Y.toList = true) ∨ (u < t ∧ O = 1 ∧ Op.bytesLess X.toList Y.toList = false ∧ (X.toList == Y.toList) = false) ∨ (t = u ∧ O = 0 ∧ (X.toList == Y.toList) = true)) (w : World) (hT : Tab w) :
    Calls Tryd.prog 13 #[.int .i64 t, .int .i64 u] w fun e w' => e = .returned (.bool true) ∧ Q w w' := by
  rcases hc with ⟨h1, rfl, h2⟩ | ⟨h1, rfl, h2, h3⟩ | ⟨h0, rfl, h2⟩
  all_goals
    try (have g1 : t ≤ u := by omega
         have g2 : u ≤ t := by omega
         clear h0)
    go_enter Tryd.func13, Tryd.ntmps13
    go_wp2_with (first
      | (go_at_call 18; with_reducible refine (k1 _).mono ?_; rintro e w1 ⟨rfl, hq1⟩; have ra := Row.new w1 a0 a1 a2 a3 a4 a5 28)
      | (go_at_call 18; with_reducible refine (k2 _).mono ?_; rintro e w2 ⟨rfl, hq2⟩; have ra2 := ra.later hq2; have rb := Row.new w2 b0 b1 b2 b3 b4 b5 28)
      | (go_at_call 22; with_reducible refine (k3 _ (Tab.later hT (by repeat (first | exact Q.refl _ | assumption | refine Q.alloc ?_ _ | refine Q.drew ?_ | refine Q.drewN ?_ _ | refine Q.setCell ?_ (Q.size (by assumption)) _ | refine Q.trans ?_ (by assumption))))).mono ?_; rintro e w3 ⟨rfl, hq3⟩; have ra3 := ra2.over hq3; have rb3 := rb.later hq3)
      | (go_at_call 22; with_reducible refine (k4 _ (Tab.later hT (by repeat (first | exact Q.refl _ | assumption | refine Q.alloc ?_ _ | refine Q.drew ?_ | refine Q.drewN ?_ _ | refine Q.setCell ?_ (Q.size (by assumption)) _ | refine Q.trans ?_ (by assumption))))).mono ?_; rintro e w4 ⟨rfl, hq4⟩; have ra4 := ra3.later hq4; have rb4 := rb3.later hq4; obtain ⟨x0, x1, x2, x3, x4, x5, x6⟩ := ra4.six; obtain ⟨y0, y1, y2, y3, y4, y5, y6⟩ := rb4.six)
      | (go_at_call 34; with_reducible refine (k5 _).mono ?_; rintro e w5 ⟨rfl, hq5⟩)
      | (go_at_call 17; refine (works_any _ (Tab.later hT (by repeat (first | exact Q.refl _ | assumption | refine Q.alloc ?_ _ | refine Q.drew ?_ | refine Q.drewN ?_ _ | refine Q.setCell ?_ (Q.size (by assumption)) _ | refine Q.trans ?_ (by assumption))))).mono ?_; rintro e w9 ⟨rfl, hq9⟩))
    go_ret
    exact ⟨rfl, by repeat (first | exact Q.refl _ | assumption | refine Q.alloc ?_ _ | refine Q.drew ?_ | refine Q.drewN ?_ _ | refine Q.setCell ?_ (Q.size (by assumption)) _ | refine Q.trans ?_ (by assumption))⟩
theorem grows_off (t u : Int) (E1 E2 : Int) (a0 a1 a2 a3 a4 a5 b0 b1 b2 b3 b4 b5 : Int) (X Y : ByteArray)
    (k1 : ∀ w2, Calls Tryd.prog 18 #[.int .i64 t] w2 fun e w' => e = .returned (.tuple #[.agg #[.int .i64 a0, .int .i64 a1, .int .i64 a2, .int .i64 a3, .int .i64 a4, .int .i64 a5], .int .i64 E1]) ∧ Q w2 w')
    (k2 : ∀ w2, Calls Tryd.prog 18 #[.int .i64 u] w2 fun e w' => e = .returned (.tuple #[.agg #[.int .i64 b0, .int .i64 b1, .int .i64 b2, .int .i64 b3, .int .i64 b4, .int .i64 b5], .int .i64 E2]) ∧ Q w2 w')
    (k3 : ∀ w2, Tab w2 → Calls Tryd.prog 22 #[.int .i64 t] w2 fun e w' => e = .returned (.tuple #[.string X, .int .i64 E1]) ∧ Q w2 w')
    (k4 : ∀ w2, Tab w2 → Calls Tryd.prog 22 #[.int .i64 u] w2 fun e w' => e = .returned (.tuple #[.string Y, .int .i64 E2]) ∧ Q w2 w')
    (hc : (E1 = 14 ∧ (E2 = 14 ∨ E2 = 0)) ∨ (E1 = 0 ∧ E2 = 14)) (w : World) (hT : Tab w) :
    Calls Tryd.prog 13 #[.int .i64 t, .int .i64 u] w fun e w' => e = .returned (.bool true) ∧ Q w w' := by
  rcases hc with ⟨rfl, rfl | rfl⟩ | ⟨rfl, rfl⟩
  all_goals
    go_enter Tryd.func13, Tryd.ntmps13
    go_wp2_with (first
      | (go_at_call 18; with_reducible refine (k1 _).mono ?_; rintro e w1 ⟨rfl, hq1⟩)
      | (go_at_call 18; with_reducible refine (k2 _).mono ?_; rintro e w2 ⟨rfl, hq2⟩)
      | (go_at_call 22; with_reducible refine (k3 _ (Tab.later hT (by repeat (first | exact Q.refl _ | assumption | refine Q.alloc ?_ _ | refine Q.drew ?_ | refine Q.drewN ?_ _ | refine Q.setCell ?_ (Q.size (by assumption)) _ | refine Q.trans ?_ (by assumption))))).mono ?_; rintro e w3 ⟨rfl, hq3⟩)
      | (go_at_call 22; with_reducible refine (k4 _ (Tab.later hT (by repeat (first | exact Q.refl _ | assumption | refine Q.alloc ?_ _ | refine Q.drew ?_ | refine Q.drewN ?_ _ | refine Q.setCell ?_ (Q.size (by assumption)) _ | refine Q.trans ?_ (by assumption))))).mono ?_; rintro e w4 ⟨rfl, hq4⟩)
      | (go_at_call 17; refine (works_any _ (Tab.later hT (by repeat (first | exact Q.refl _ | assumption | refine Q.alloc ?_ _ | refine Q.drew ?_ | refine Q.drewN ?_ _ | refine Q.setCell ?_ (Q.size (by assumption)) _ | refine Q.trans ?_ (by assumption))))).mono ?_; rintro e w9 ⟨rfl, hq9⟩))
    go_ret
    exact ⟨rfl, by repeat (first | exact Q.refl _ | assumption | refine Q.alloc ?_ _ | refine Q.drew ?_ | refine Q.drewN ?_ _ | refine Q.setCell ?_ (Q.size (by assumption)) _ | refine Q.trans ?_ (by assumption))⟩
theorem civilGrows_walk (t u : Int) (w0 : (Lit.int .i64 t).wf = true) (w1 : (Lit.int .i64 u).wf = true) (w : World) (hT : Tab w) :
    Calls Tryd.prog 13 #[.int .i64 t, .int .i64 u] w fun e w' => e = .returned (.bool true) ∧ Q w w' := by
  by_cases h : Cal.timeOk t ∧ Cal.timeOk u
  · obtain ⟨ht, hu⟩ := h
    have ho := Cal.order_of ht hu
    have hl := tx_less ht hu
    refine grows_core t u _ _ _ _ _ _ _ _ _ _ _ _ (tx t) (tx u) _ (of_good t ht) (of_good u hu) (fun w2 h2 => ?_) (fun w2 h2 => ?_) (order_any _ _ _ _ _ _ _ _ _ _ _ _) ?_ w hT
    · have := text_any t w2 h2; rw [ofE_good t ht] at this; exact this
    · have := text_any u w2 h2; rw [ofE_good u hu] at this; exact this
    · rcases Int.lt_trichotomy t u with g | g | g
      · refine Or.inl ⟨g, ?_, ?_⟩
        · rw [if_pos g] at ho; exact ho
        · rw [hl]; simp [g]
      · refine Or.inr (Or.inr ⟨g, ?_, ?_⟩)
        · rw [if_neg (by omega), if_neg (by omega)] at ho; exact ho
        · rw [g]; simp
      · refine Or.inr (Or.inl ⟨g, ?_, ?_, ?_⟩)
        · rw [if_neg (by omega), if_pos g] at ho; exact ho
        · rw [hl]; simp; omega
        · exact bs_f fun e => by have := tx_inj ht hu e; omega
  · refine grows_off t u (Cal.ofE t) (Cal.ofE u) _ _ _ _ _ _ _ _ _ _ _ _ (tx t) (tx u) (of_any t) (of_any u) (fun w2 h2 => text_any t w2 h2) (fun w2 h2 => text_any u w2 h2) ?_ w hT
    unfold Cal.ofE
    by_cases ht : Cal.timeOk t <;> by_cases hu : Cal.timeOk u <;> simp [ht, hu]
    exact h ⟨ht, hu⟩
end Go.Proofs.YtdhlgmclogdplaaDoor
