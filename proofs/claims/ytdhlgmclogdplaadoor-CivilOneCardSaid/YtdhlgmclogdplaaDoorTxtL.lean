/- The contract of the document's Order; the examples of the chapter hold. -/
import Derived.Test.YtdhlgmclogdplaaDoorTxtK
import Derived.Test.YtdhlgmclogdplaaDoorTxtI
namespace Go.Proofs.YtdhlgmclogdplaaDoor
open Go.RowKit
set_option linter.unusedVariables false
set_option linter.unusedSimpArgs false
/-- the loop's relation -/
def OR (l m : List Int) (B C k : Nat) (w wr : World) : Prop := k ≤ 6 ∧ Q w wr ∧ Row B l wr ∧ Row C m wr ∧ Cal.cmpL l m = Cal.cmpL (l.drop k) (m.drop k)
set_option maxHeartbeats 1000000 in
theorem rorder_any (a b c d e f a' b' c' d' e' f' : Int) (w : World) :
    Calls Tryd.prog 35 #[.agg #[.int .i64 a, .int .i64 b, .int .i64 c, .int .i64 d, .int .i64 e, .int .i64 f], .agg #[.int .i64 a', .int .i64 b', .int .i64 c', .int .i64 d', .int .i64 e', .int .i64 f']] w fun z w' => z = .returned (.int .i64 (Cal.cmpL (Cal.fl a b c d e f) (Cal.fl a' b' c' d' e' f'))) ∧ Q w w' := by
  obtain ⟨l, hl⟩ : ∃ l, Cal.fl a b c d e f = l := ⟨_, rfl⟩
  obtain ⟨m, hm⟩ : ∃ l, Cal.fl a' b' c' d' e' f' = l := ⟨_, rfl⟩
  have hl6 : l.length = 6 := by rw [← hl]; rfl
  have hm6 : m.length = 6 := by rw [← hm]; rfl
  rw [hl, hm]
  have HL := Lib.hid hl; have HM := Lib.hid hm
  clear hl hm
  have hgi : goInt 6 = .int .i64 6 := by simp [goInt]
  go_enter Tryd.func35, Tryd.ntmps35
  go_wp2_with fail
  go_loopw [7] (fun vi wr => ∃ k : Nat, vi = .int .i64 k ∧ OR l m (w.heap.size + 2) (w.heap.size + 3) k w wr) (fun vi _ => 6 - (intOf vi).toNat)
  case atStart =>
    refine ⟨0, rfl, by omega, (((Q.refl _).alloc _).alloc _).alloc _ |>.alloc _, ?_, ?_, by simp⟩
    · rw [← HL.out]
      have := (Row.new ((w.alloc (.cells #[.int .i64 a, .int .i64 b, .int .i64 c, .int .i64 d, .int .i64 e, .int .i64 f] 28)).alloc (.cells #[.int .i64 a', .int .i64 b', .int .i64 c', .int .i64 d', .int .i64 e', .int .i64 f'] 28)) a b c d e f 3)
      simp only [World.size_alloc] at this
      exact this.later ((Q.refl _).alloc _)
    · rw [← HM.out]
      have := (Row.new (((w.alloc (.cells #[.int .i64 a, .int .i64 b, .int .i64 c, .int .i64 d, .int .i64 e, .int .i64 f] 28)).alloc (.cells #[.int .i64 a', .int .i64 b', .int .i64 c', .int .i64 d', .int .i64 e', .int .i64 f'] 28)).alloc (.cells #[.int .i64 a, .int .i64 b, .int .i64 c, .int .i64 d, .int .i64 e, .int .i64 f] 3)) a' b' c' d' e' f' 3)
      simp only [World.size_alloc] at this
      exact this
  case round =>
    obtain ⟨k, rfl, hk, hq, rb, rc, hc⟩ := hrel
    rcases Nat.lt_or_ge k 6 with hlt | hge
    · have hs := cmp_step l m k (by omega) (by omega)
      have c1 := rb.2 k (by omega)
      have c2 := rc.2 k (by omega)
      rw [hs] at hc
      obtain ⟨x, hx⟩ : ∃ x, l.getD k 0 = x := ⟨_, rfl⟩
      obtain ⟨y, hy⟩ : ∃ x, m.getD k 0 = x := ⟨_, rfl⟩
      rw [hx] at c1 hc
      rw [hy] at c2 hc
      have y1 : decide ((k : Int) < 6) = true := by simp; omega
      have y2 : (0 : Int) ≤ k ∧ (k : Int) < 6 := by omega
      clear hs hx hy hl6 hm6
      rcases Int.lt_trichotomy x y with h1 | h1 | h1
      · rw [if_pos h1] at hc
        have HC := Lib.hid hc; clear hc
        go_wp2_with fail
        go_quiet (fail)
        go_wp2_with fail
        go_ret
        exact ⟨ret_int HC.out.symm, by repeat (first | exact Q.refl _ | assumption | refine Q.alloc ?_ _ | refine Q.drew ?_ | refine Q.drewN ?_ _ | refine Q.trans ?_ (by assumption))⟩
      · subst h1
        simp only [Int.lt_irrefl, if_false] at hc
        have HC := Lib.hid hc; clear hc
        go_wp2_with fail
        go_quiet (fail)
        go_wp2_with fail
        go_quiet (fail)
        go_wp2_with fail
        go_roundw
        case rel => exact ⟨k + 1, by go_num, by omega, by repeat (first | exact Q.refl _ | assumption | refine Q.alloc ?_ _ | refine Q.drew ?_ | refine Q.drewN ?_ _ | refine Q.trans ?_ (by assumption)), rb.later ((Q.refl _).drewN _), rc.later ((Q.refl _).drewN _), HC.out⟩
        case measure => simp [intOf]; omega
      · rw [if_neg (by omega), if_pos h1] at hc
        have HC := Lib.hid hc; clear hc
        go_wp2_with fail
        go_quiet (fail)
        go_wp2_with fail
        go_quiet (fail)
        go_wp2_with fail
        go_ret
        exact ⟨ret_int HC.out.symm, by repeat (first | exact Q.refl _ | assumption | refine Q.alloc ?_ _ | refine Q.drew ?_ | refine Q.drewN ?_ _ | refine Q.trans ?_ (by assumption))⟩
    · have hkn : k = 6 := by omega
      subst hkn
      have e1 : l.drop 6 = [] := List.drop_eq_nil_of_le (by omega)
      have e2 : m.drop 6 = [] := List.drop_eq_nil_of_le (by omega)
      rw [e1, e2] at hc
      have z : Cal.cmpL [] [] = 0 := rfl
      rw [z] at hc
      have HC := Lib.hid hc
      clear z hc e1 e2 hl6 hm6
      go_wp2_with fail
      go_ret
      exact ⟨ret_int HC.out.symm, hq⟩
theorem k_days (w : World) : Calls Tryd.prog 27 #[.int .i64 2000, .int .i64 3, .int .i64 1] w fun e w' => e = .returned (.tuple #[.int .i64 11017, .int .i64 0]) ∧ w = w' := by
  have h := days_good 2000 3 1 (by decide) w
  have e : Cal.num 2000 3 1 = 11017 := by decide
  rw [e] at h; exact h
theorem k_days2 (w : World) : Calls Tryd.prog 27 #[.int .i64 2023, .int .i64 2, .int .i64 29] w fun e w' => e = .returned (.tuple #[.int .i64 0, .int .i64 2]) ∧ w = w' := days_bad 2023 2 29 (by decide) w
theorem k_of (w : World) : Calls Tryd.prog 18 #[.int .i64 951782399] w fun e w' => e = .returned (.tuple #[.agg #[.int .i64 2000, .int .i64 2, .int .i64 28, .int .i64 23, .int .i64 59, .int .i64 59], .int .i64 0]) ∧ Q w w' := by
  have h := of_good 951782399 (by decide) w
  have e1 : Cal.cY 951782399 = 2000 := by decide
  have e2 : Cal.cM 951782399 = 2 := by decide
  have e3 : Cal.cD 951782399 = 28 := by decide
  have e4 : Cal.cH 951782399 = 23 := by decide
  have e5 : Cal.cI 951782399 = 59 := by decide
  have e6 : Cal.cS 951782399 = 59 := by decide
  rw [e1, e2, e3, e4, e5, e6] at h; exact h
theorem k_text (w : World) (ht : Tab w) : Calls Tryd.prog 22 #[.int .i64 253402300799] w fun e w' => e = .returned (.tuple #[.string ⟨#[57, 57, 57, 57, 45, 49, 50, 45, 51, 49, 32, 50, 51, 58, 53, 57, 58, 53, 57]⟩, .int .i64 0]) ∧ Q w w' := by
  have h := text_good 253402300799 (by decide) w ht
  have e1 : Cal.cY 253402300799 = 9999 := by decide
  have e2 : Cal.cM 253402300799 = 12 := by decide
  have e3 : Cal.cD 253402300799 = 31 := by decide
  have e4 : Cal.cH 253402300799 = 23 := by decide
  have e5 : Cal.cI 253402300799 = 59 := by decide
  have e6 : Cal.cS 253402300799 = 59 := by decide
  rw [e1, e2, e3, e4, e5, e6] at h; exact h
theorem k_parse (w : World) : Calls Tryd.prog 24 #[.string ⟨#[50, 48, 50, 52, 45, 48, 50, 45, 50, 57, 32, 48, 48, 58, 48, 48, 58, 48, 48]⟩] w fun e w' => e = .returned (.tuple #[.int .i64 1709164800, .int .i64 0]) ∧ Q w w' := by
  have h := parse_any ⟨#[50, 48, 50, 52, 45, 48, 50, 45, 50, 57, 32, 48, 48, 58, 48, 48, 58, 48, 48]⟩ (by decide) w
  have e1 : pV ⟨#[50, 48, 50, 52, 45, 48, 50, 45, 50, 57, 32, 48, 48, 58, 48, 48, 58, 48, 48]⟩ = 1709164800 := by decide +kernel
  have e2 : pE ⟨#[50, 48, 50, 52, 45, 48, 50, 45, 50, 57, 32, 48, 48, 58, 48, 48, 58, 48, 48]⟩ = 0 := by decide +kernel
  rw [e1, e2] at h; exact h
theorem k_week (w : World) : Calls Tryd.prog 20 #[.int .i64 259200] w fun e w' => e = .returned (.tuple #[.int .i64 0, .int .i64 0]) ∧ w = w' := week_good 259200 (by decide) w
theorem k_leap (w : World) : Calls Tryd.prog 31 #[.int .i64 2000] w fun e w' => e = .returned (.bool true) ∧ w = w' := leap_any 2000 w
theorem works_any (w : World) (hT : Tab w) : Calls Tryd.prog 17 #[] w fun e w' => e = .returned (.bool true) ∧ Q w w' := by
  have he := fun w2 => eql6 2000 2 28 23 59 59 2000 2 28 23 59 59 w2
  go_enter Tryd.func17, Tryd.ntmps17
  go_wp2_with (first
    | (go_at_call 27; with_reducible refine (k_days _).mono ?_; rintro e w1 ⟨rfl, rfl⟩)
    | (go_at_call 27; with_reducible refine (k_days2 _).mono ?_; rintro e w1 ⟨rfl, rfl⟩)
    | (go_at_call 18; refine (k_of _).mono ?_; rintro e w2 ⟨rfl, hq2⟩)
    | (go_at_call 22; refine (k_text _ (Tab.later hT (by repeat (first | exact Q.refl _ | assumption | refine Q.alloc ?_ _ | refine Q.drew ?_ | refine Q.drewN ?_ _ | refine Q.trans ?_ (by assumption))))).mono ?_; rintro e w3 ⟨rfl, hq3⟩; obtain ⟨k0, k1, k2, k3, k4, k5, kz⟩ := box6 hq3)
    | (go_at_call 24; refine (k_parse _).mono ?_; rintro e w4 ⟨rfl, hq4⟩; obtain ⟨x1, x2, x3⟩ := qcell hq4)
    | (go_at_call 20; refine (k_week _).mono ?_; rintro e w5 ⟨rfl, rfl⟩)
    | (go_at_call 31; refine (k_leap _).mono ?_; rintro e w5 ⟨rfl, rfl⟩))
  go_ret
  exact ⟨rfl, by repeat (first | exact Q.refl _ | assumption | refine Q.alloc ?_ _ | refine Q.drew ?_ | refine Q.drewN ?_ _ | refine Q.trans ?_ (by assumption))⟩
end Go.Proofs.YtdhlgmclogdplaaDoor
