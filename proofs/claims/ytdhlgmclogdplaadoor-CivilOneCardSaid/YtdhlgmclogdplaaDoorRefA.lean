/- The contracts of the document's calendar: leap years, lengths of months, days of dates, dates of days. -/
import Derived.Test.YtdhlgmclogdplaaDoorCivC
import Derived.Test.YtdhlgmclogdplaaDoorCalB
namespace Go.Proofs.YtdhlgmclogdplaaDoor
open Go.RowKit
set_option linter.unusedVariables false
theorem rleap_any (y : Int) (w : World) :
    Calls Tryd.prog 32 #[.int .i64 y] w fun e w' => e = .returned (.bool (Cal.leap y)) ∧ w = w' := by
  unfold Cal.leap
  by_cases a : y % 4 = 0 <;> by_cases b : y % 100 = 0 <;> by_cases c : y % 400 = 0 <;> first | (exfalso; omega) |
  · have b4 : (y.tmod 4 == 0) = decide (y % 4 = 0) := Cal.tmod_beq y 4
    have b100 : (y.tmod 100 == 0) = decide (y % 100 = 0) := Cal.tmod_beq y 100
    have b400 : (y.tmod 400 == 0) = decide (y % 400 = 0) := Cal.tmod_beq y 400
    have n100 : (y.tmod 100 != 0) = !decide (y % 100 = 0) := by rw [bne, b100]
    simp only [a, b, c, decide_true, decide_false, Bool.not_true, Bool.not_false] at b4 b100 b400 n100
    simp only [a, b, c]
    clear a b c
    go_enter Tryd.func32, Tryd.ntmps32
    go_wp2
    go_ret
    exact ⟨by simp, rfl⟩
theorem rbefore_any (y : Int) (hy : 1970 ≤ y ∧ y ≤ 10000) (w : World) :
    Calls Tryd.prog 36 #[.int .i64 y] w fun e w' => e = .returned (.int .i64 (Cal.dby y)) ∧ w = w' := by
  have e := Lib.hid (Cal.dby_eq y)
  go_enter Tryd.func36, Tryd.ntmps36
  go_wp2
  go_ret
  exact ⟨ret_int e.out, rfl⟩
theorem rlen_bad (y m : Int) (h : y < 1970 ∨ 9999 < y ∨ m < 1 ∨ 12 < m) (w : World) :
    Calls Tryd.prog 29 #[.int .i64 y, .int .i64 m] w fun e w' => e = .returned (.tuple #[.int .i64 0, .int .i64 2]) ∧ Q w w' := by
  by_cases h1 : y < 1970
  · clear h
    go_enter Tryd.func29, Tryd.ntmps29
    go_wp2
    go_ret2
    exact ⟨rfl, Q.refl _⟩
  by_cases h2 : 9999 < y
  · clear h
    go_enter Tryd.func29, Tryd.ntmps29
    go_wp2
    go_ret2
    exact ⟨rfl, Q.refl _⟩
  by_cases h3 : m < 1
  · clear h
    go_enter Tryd.func29, Tryd.ntmps29
    go_wp2
    go_ret2
    exact ⟨rfl, Q.refl _⟩
  · have h4 : 12 < m := by omega
    clear h
    go_enter Tryd.func29, Tryd.ntmps29
    go_wp2
    go_ret2
    exact ⟨rfl, Q.refl _⟩
set_option maxHeartbeats 2000000 in
theorem rlen_good (y m : Int) (hy : 1970 ≤ y ∧ y ≤ 9999) (hm : 1 ≤ m ∧ m ≤ 12) (w : World) :
    Calls Tryd.prog 29 #[.int .i64 y, .int .i64 m] w fun e w' => e = .returned (.tuple #[.int .i64 (Cal.dim y m), .int .i64 0]) ∧ Q w w' := by
  by_cases hl : m = 2 ∧ Cal.leap y = true
  · obtain ⟨rfl, hl⟩ := hl
    have e : Cal.dim y 2 = 29 := by unfold Cal.dim Cal.lp; rw [if_pos rfl, if_pos hl]; rfl
    rw [e]; clear e
    go_enter Tryd.func29, Tryd.ntmps29
    go_wp2_with (go_at_call 32; refine (rleap_any _ _).mono ?_; rintro e w' ⟨rfl, rfl⟩)
    go_ret2
    exact ⟨rfl, Q.refl _⟩
  · rcases Cal.month_cases hm.1 hm.2 with h | h | h | h | h | h | h | h | h | h | h | h
    all_goals
      subst h
      first
        | (have hl' : Cal.leap y = false := by simpa using hl
           have e : Cal.dim y 2 = 28 := by unfold Cal.dim Cal.lp; rw [if_pos rfl, if_neg (by rw [hl']; simp)]; rfl
           rw [e]; clear e)
        | (rw [show Cal.dim y _ = 31 from rfl])
        | (rw [show Cal.dim y _ = 30 from rfl])
      clear hl
      go_enter Tryd.func29, Tryd.ntmps29
      go_wp2_with (go_at_call 32; refine (rleap_any _ _).mono ?_; rintro e w' ⟨rfl, rfl⟩)
      go_ret2
      exact ⟨rfl, (Q.refl _).alloc _⟩
end Go.Proofs.YtdhlgmclogdplaaDoor
