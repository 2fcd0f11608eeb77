/- The walks of the laws CivilDates, CivilTimes, CivilTexts, CivilDays, CivilSeconds, CivilWeeks, CivilCycles. -/
import Derived.Test.YtdhlgmclogdplaaDoorTxtL
namespace Go.Proofs.YtdhlgmclogdplaaDoor
open Go.RowKit
set_option linter.unusedVariables false
set_option linter.unusedSimpArgs false
theorem date_any (n : Int) (w : World) : Calls Tryd.prog 15 #[.int .i64 n] w fun e w' => e = .returned (.tuple #[.int .i64 (Cal.dateY n), .int .i64 (Cal.dateM n), .int .i64 (Cal.dateD n), .int .i64 (Cal.dateE n)]) ∧ w = w' := by
  unfold Cal.dateY Cal.dateM Cal.dateD Cal.dateE
  by_cases h : Cal.dayOk n
  · rw [if_pos h, if_pos h, if_pos h, if_pos h]; exact date_good n h w
  · rw [if_neg h, if_neg h, if_neg h, if_neg h]; exact date_bad n h w
theorem rdate_any (n : Int) (w : World) : Calls Tryd.prog 16 #[.int .i64 n] w fun e w' => e = .returned (.tuple #[.int .i64 (Cal.dateY n), .int .i64 (Cal.dateM n), .int .i64 (Cal.dateD n), .int .i64 (Cal.dateE n)]) ∧ Q w w' := by
  unfold Cal.dateY Cal.dateM Cal.dateD Cal.dateE
  by_cases h : Cal.dayOk n
  · rw [if_pos h, if_pos h, if_pos h, if_pos h]; exact rdate_good n h w
  · rw [if_neg h, if_neg h, if_neg h, if_neg h]; exact rdate_bad n h w
theorem days_any (y m d : Int) (w : World) : Calls Tryd.prog 27 #[.int .i64 y, .int .i64 m, .int .i64 d] w fun e w' => e = .returned (.tuple #[.int .i64 (Cal.daysV y m d), .int .i64 (Cal.daysE y m d)]) ∧ w = w' := by
  unfold Cal.daysV Cal.daysE
  by_cases h : Cal.Valid y m d
  · rw [if_pos h, if_pos h]; exact days_good y m d h w
  · rw [if_neg h, if_neg h]; exact days_bad y m d h w
theorem rdays_any (y m d : Int) (w : World) : Calls Tryd.prog 30 #[.int .i64 y, .int .i64 m, .int .i64 d] w fun e w' => e = .returned (.tuple #[.int .i64 (Cal.daysV y m d), .int .i64 (Cal.daysE y m d)]) ∧ Q w w' := by
  unfold Cal.daysV Cal.daysE
  by_cases h : Cal.Valid y m d
  · rw [if_pos h, if_pos h]; exact rdays_good y m d h w
  · rw [if_neg h, if_neg h]; exact rdays_bad y m d h w
/-- the length of any month, and its error -/
def lenV (y m : Int) : Int := if 1970 ≤ y ∧ y ≤ 9999 ∧ 1 ≤ m ∧ m ≤ 12 then Cal.dim y m else 0
def lenE (y m : Int) : Int := if 1970 ≤ y ∧ y ≤ 9999 ∧ 1 ≤ m ∧ m ≤ 12 then 0 else 2
theorem len_any (y m : Int) (w : World) : Calls Tryd.prog 28 #[.int .i64 y, .int .i64 m] w fun e w' => e = .returned (.tuple #[.int .i64 (lenV y m), .int .i64 (lenE y m)]) ∧ w = w' := by
  unfold lenV lenE
  by_cases h : 1970 ≤ y ∧ y ≤ 9999 ∧ 1 ≤ m ∧ m ≤ 12
  · rw [if_pos h, if_pos h]; exact len_good y m (by omega) (by omega) w
  · rw [if_neg h, if_neg h]; exact len_bad y m (by omega) w
theorem rlen_any (y m : Int) (w : World) : Calls Tryd.prog 29 #[.int .i64 y, .int .i64 m] w fun e w' => e = .returned (.tuple #[.int .i64 (lenV y m), .int .i64 (lenE y m)]) ∧ Q w w' := by
  unfold lenV lenE
  by_cases h : 1970 ≤ y ∧ y ≤ 9999 ∧ 1 ≤ m ∧ m ≤ 12
  · rw [if_pos h, if_pos h]; exact rlen_good y m (by omega) (by omega) w
  · rw [if_neg h, if_neg h]; exact rlen_bad y m (by omega) w
theorem of_any (t : Int) (w : World) : Calls Tryd.prog 18 #[.int .i64 t] w fun e w' => e = .returned (.tuple #[.agg #[.int .i64 (Cal.ofY t), .int .i64 (Cal.ofM t), .int .i64 (Cal.ofD t), .int .i64 (Cal.ofH t), .int .i64 (Cal.ofI t), .int .i64 (Cal.ofS t)], .int .i64 (Cal.ofE t)]) ∧ Q w w' := by
  unfold Cal.ofY Cal.ofM Cal.ofD Cal.ofH Cal.ofI Cal.ofS Cal.ofE
  by_cases h : Cal.timeOk t
  · rw [if_pos h, if_pos h, if_pos h, if_pos h, if_pos h, if_pos h, if_pos h]; exact of_good t h w
  · rw [if_neg h, if_neg h, if_neg h, if_neg h, if_neg h, if_neg h, if_neg h]; exact of_bad t h w
theorem rof_any (t : Int) (w : World) : Calls Tryd.prog 19 #[.int .i64 t] w fun e w' => e = .returned (.tuple #[.agg #[.int .i64 (Cal.ofY t), .int .i64 (Cal.ofM t), .int .i64 (Cal.ofD t), .int .i64 (Cal.ofH t), .int .i64 (Cal.ofI t), .int .i64 (Cal.ofS t)], .int .i64 (Cal.ofE t)]) ∧ Q w w' := by
  unfold Cal.ofY Cal.ofM Cal.ofD Cal.ofH Cal.ofI Cal.ofS Cal.ofE
  by_cases h : Cal.timeOk t
  · rw [if_pos h, if_pos h, if_pos h, if_pos h, if_pos h, if_pos h, if_pos h]; exact rof_good t h w
  · rw [if_neg h, if_neg h, if_neg h, if_neg h, if_neg h, if_neg h, if_neg h]; exact rof_bad t h w
theorem week_any (t : Int) (w : World) : Calls Tryd.prog 20 #[.int .i64 t] w fun e w' => e = .returned (.tuple #[.int .i64 (Cal.wkV t), .int .i64 (Cal.ofE t)]) ∧ w = w' := by
  unfold Cal.wkV Cal.ofE
  by_cases h : Cal.timeOk t
  · rw [if_pos h, if_pos h]; exact week_good t h w
  · rw [if_neg h, if_neg h]; exact week_bad t h w
theorem rweek_any (t : Int) (w : World) : Calls Tryd.prog 21 #[.int .i64 t] w fun e w' => e = .returned (.tuple #[.int .i64 (Cal.wkV t), .int .i64 (Cal.ofE t)]) ∧ w = w' := by
  unfold Cal.wkV Cal.ofE
  by_cases h : Cal.timeOk t
  · rw [if_pos h, if_pos h]; exact rweek_good t h w
  · rw [if_neg h, if_neg h]; exact rweek_bad t h w
theorem civilDates_walk (t : Int) (w0 : (Lit.int .i64 t).wf = true) (w : World) (hT : Tab w) :
    Calls Tryd.prog 3 #[.int .i64 t] w fun e w' => e = .returned (.bool true) ∧ Q w w' := by
  go_enter Tryd.func3, Tryd.ntmps3
  go_wp2_with (first
    | (go_at_call 15; refine (date_any _ _).mono ?_; rintro e w1 ⟨rfl, rfl⟩)
    | (go_at_call 16; refine (rdate_any _ _).mono ?_; rintro e w2 ⟨rfl, hq2⟩)
    | (go_at_call 17; refine (works_any _ (Tab.later hT (by repeat (first | exact Q.refl _ | assumption | refine Q.alloc ?_ _ | refine Q.drew ?_ | refine Q.drewN ?_ _ | refine Q.trans ?_ (by assumption))))).mono ?_; rintro e w9 ⟨rfl, hq9⟩))
  go_ret
  exact ⟨rfl, by repeat (first | exact Q.refl _ | assumption | refine Q.alloc ?_ _ | refine Q.drew ?_ | refine Q.drewN ?_ _ | refine Q.trans ?_ (by assumption))⟩
theorem bs_t {a b : ByteArray} (h : a = b) : (a.toList == b.toList) = true := by rw [h]; simp
theorem bs_f {a b : ByteArray} (h : a ≠ b) : (a.toList == b.toList) = false := by
  rw [ByteArray.toList_eq, ByteArray.toList_eq, beq_eq_false_iff_ne]
  intro e
  apply h
  obtain ⟨⟨x⟩⟩ := a
  obtain ⟨⟨y⟩⟩ := b
  simp at e
  rw [e]
theorem Row.over {B : Nat} {l : List Int} {w w' : World} {o : Obj} (h : Row B l w) (q : Q (w.alloc o) w') : Row B l w' := (h.later ((Q.refl w).alloc o)).later q
theorem civilTimes_walk (t : Int) (w0 : (Lit.int .i64 t).wf = true) (w : World) (hT : Tab w) :
    Calls Tryd.prog 4 #[.int .i64 t] w fun e w' => e = .returned (.bool true) ∧ Q w w' := by
  have he := fun w2 => eql6 (Cal.ofY t) (Cal.ofM t) (Cal.ofD t) (Cal.ofH t) (Cal.ofI t) (Cal.ofS t) (Cal.ofY t) (Cal.ofM t) (Cal.ofD t) (Cal.ofH t) (Cal.ofI t) (Cal.ofS t) w2
  simp only [same6_refl] at he
  go_enter Tryd.func4, Tryd.ntmps4
  go_wp2_with (first
    | (go_at_call 18; refine (of_any _ _).mono ?_; rintro e w1 ⟨rfl, hq1⟩; have ra := Row.new w1 (Cal.ofY t) (Cal.ofM t) (Cal.ofD t) (Cal.ofH t) (Cal.ofI t) (Cal.ofS t) 28)
    | (go_at_call 19; refine (rof_any _ _).mono ?_; rintro e w2 ⟨rfl, hq2⟩; have rb := Row.new w2 (Cal.ofY t) (Cal.ofM t) (Cal.ofD t) (Cal.ofH t) (Cal.ofI t) (Cal.ofS t) 28; have ra2 := ra.later hq2)
    | (go_at_call 20; refine (week_any _ _).mono ?_; rintro e w3 ⟨rfl, rfl⟩)
    | (go_at_call 21; refine (rweek_any _ _).mono ?_; rintro e w3 ⟨rfl, rfl⟩)
    | (go_at_call 22; refine (text_any _ _ (Tab.later hT (by repeat (first | exact Q.refl _ | assumption | refine Q.alloc ?_ _ | refine Q.drew ?_ | refine Q.drewN ?_ _ | refine Q.trans ?_ (by assumption))))).mono ?_; rintro e w4 ⟨rfl, hq4⟩; have ra3 := ra2.over hq4; have rb3 := rb.later hq4)
    | (go_at_call 23; refine (rtext_any _ _).mono ?_; rintro e w5 ⟨rfl, hq5⟩; obtain ⟨x0, x1, x2, x3, x4, x5, x6⟩ := (ra3.later hq5).six; obtain ⟨y0, y1, y2, y3, y4, y5, y6⟩ := (rb3.later hq5).six)
    | (go_at_call 17; refine (works_any _ (Tab.later hT (by repeat (first | exact Q.refl _ | assumption | refine Q.alloc ?_ _ | refine Q.drew ?_ | refine Q.drewN ?_ _ | refine Q.trans ?_ (by assumption))))).mono ?_; rintro e w9 ⟨rfl, hq9⟩))
  go_ret
  exact ⟨rfl, by repeat (first | exact Q.refl _ | assumption | refine Q.alloc ?_ _ | refine Q.drew ?_ | refine Q.drewN ?_ _ | refine Q.trans ?_ (by assumption))⟩
theorem civilTexts_walk (s : ByteArray) (hs : s.size < 9223372036854775808) (w : World) (hT : Tab w) :
    Calls Tryd.prog 5 #[.string s] w fun e w' => e = .returned (.bool true) ∧ Q w w' := by
  have h2 : goInt s.size = .int .i64 s.size := by simp [goInt]
  by_cases hz : s.size ≤ 60
  · have y1 : decide (60 < (s.size : Int)) = false := by simp; omega
    go_enter Tryd.func5, Tryd.ntmps5
    go_wp2_with (first
      | (go_at_call 24; refine (parse_any _ hs _).mono ?_; rintro e w1 ⟨rfl, hq1⟩)
      | (go_at_call 25; refine (rparse_any _ hs _).mono ?_; rintro e w2 ⟨rfl, hq2⟩)
      | (go_at_call 17; refine (works_any _ (Tab.later hT (by repeat (first | exact Q.refl _ | assumption | refine Q.alloc ?_ _ | refine Q.drew ?_ | refine Q.drewN ?_ _ | refine Q.trans ?_ (by assumption))))).mono ?_; rintro e w9 ⟨rfl, hq9⟩))
    go_ret
    exact ⟨rfl, by repeat (first | exact Q.refl _ | assumption | refine Q.alloc ?_ _ | refine Q.drew ?_ | refine Q.drewN ?_ _ | refine Q.trans ?_ (by assumption))⟩
  · have y1 : decide (60 < (s.size : Int)) = true := by simp; omega
    go_enter Tryd.func5, Tryd.ntmps5
    go_wp2_with (first
      | (go_at_call 17; refine (works_any _ (Tab.later hT (by repeat (first | exact Q.refl _ | assumption | refine Q.alloc ?_ _ | refine Q.drew ?_ | refine Q.drewN ?_ _ | refine Q.trans ?_ (by assumption))))).mono ?_; rintro e w9 ⟨rfl, hq9⟩))
    go_ret
    exact ⟨rfl, by repeat (first | exact Q.refl _ | assumption | refine Q.alloc ?_ _ | refine Q.drew ?_ | refine Q.drewN ?_ _ | refine Q.trans ?_ (by assumption))⟩
end Go.Proofs.YtdhlgmclogdplaaDoor
