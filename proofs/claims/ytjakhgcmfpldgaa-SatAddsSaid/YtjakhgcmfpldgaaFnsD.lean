/- The contracts of sat.Times. -/
import Derived.Test.YtjakhgcmfpldgaaFnsC
namespace Go.Proofs.Ytjakhgcmfpldgaa
open Go.RowKit
set_option linter.unusedVariables false
theorem ret_two {k l : IntKind} {a b c d : Int} (h : a = c) (g : b = d) : Ending.returned (.tuple #[.int k a, .int l b]) = .returned (.tuple #[.int k c, .int l d]) := by rw [h, g]
theorem prod_sgn (a b : Int) (m : Bool) (hm : ((decide (a < 0)) == (decide (b < 0))) = !m) : a * b = sgn m (big a b) := by
  have := big_eq a b
  rw [hm] at this
  cases m
  · rw [sgn_false, this]; rfl
  · rw [sgn_true, this]; simp
set_option maxRecDepth 100000 in
theorem times_any (a b : Int) (ha : -9223372036854775808 ≤ a ∧ a ≤ 9223372036854775807) (hb : -9223372036854775808 ≤ b ∧ b ≤ 9223372036854775807) (w : World) :
    Calls Try.prog 33 #[.int .i64 a, .int .i64 b] w fun e w' => e = .returned (.tuple #[.int .i64 (Sat.timesV a b), .int .i64 (Sat.timesE a b)]) ∧ Q w w' := by
  obtain ⟨m, hm⟩ : ∃ m : Bool, ((decide (a < 0)) == (decide (b < 0))) = !m := ⟨!_, (Bool.not_not _).symm⟩
  unfold Sat.timesV Sat.timesE
  rw [prod_sgn a b m hm]
  have Hm := Lib.hid hm; clear hm
  have hg := big_nonneg a b
  by_cases hf : Sat.fits (sgn m (big a b)) = true
  · have hr := fits_t hf
    rw [if_pos hf, if_pos hf]; clear hf
    have hlo : big a b % 18446744073709551616 = big a b := by cases m <;> simp only [sgn_true, sgn_false] at hr <;> omega
    have hhi : big a b / 18446744073709551616 ≤ 0 := by cases m <;> simp only [sgn_true, sgn_false] at hr <;> omega
    have Hlo := Lib.hid hlo
    cases m
    · rw [sgn_false] at hr
      have h1 : big a b % 18446744073709551616 ≤ 9223372036854775807 := by omega
      clear hlo hr
      go_enter Try.func33, Try.ntmps33
      go_wp2_with (first | (go_at_call 36; refine (product_any _ _ _ Hm.out (by omega) (by omega) _).mono ?_; rintro e w1 ⟨rfl, hq1⟩) | (go_at_call 37; refine (signed_any _ _ (by omega) (by omega) _).mono ?_; rintro e w' ⟨rfl, rfl⟩))
      go_ret2
      exact ⟨ret_two (by rw [Hlo.out]) rfl, hq1.alloc _⟩
    · rw [sgn_true] at hr
      have h1 : big a b % 18446744073709551616 ≤ 9223372036854775808 := by omega
      clear hlo hr
      go_enter Try.func33, Try.ntmps33
      go_wp2_with (first | (go_at_call 36; refine (product_any _ _ _ Hm.out (by omega) (by omega) _).mono ?_; rintro e w1 ⟨rfl, hq1⟩) | (go_at_call 37; refine (signed_any _ _ (by omega) (by simp) _).mono ?_; rintro e w' ⟨rfl, rfl⟩))
      go_ret2
      exact ⟨ret_two (by rw [Hlo.out]) rfl, hq1.alloc _⟩
  · have hr := fits_f hf
    rw [if_neg hf, if_neg hf]; clear hf
    by_cases hhi : 0 < big a b / 18446744073709551616
    · clear hr
      cases m
      all_goals
        go_enter Try.func33, Try.ntmps33
        go_wp2_with (first | (go_at_call 36; refine (product_any _ _ _ Hm.out (by omega) (by omega) _).mono ?_; rintro e w1 ⟨rfl, hq1⟩))
        go_ret2
        exact ⟨rfl, hq1.alloc _⟩
    · have hhi' : big a b / 18446744073709551616 ≤ 0 := by omega
      cases m
      · rw [sgn_false] at hr
        have h1 : 9223372036854775807 < big a b % 18446744073709551616 := by omega
        clear hr
        go_enter Try.func33, Try.ntmps33
        go_wp2_with (first | (go_at_call 36; refine (product_any _ _ _ Hm.out (by omega) (by omega) _).mono ?_; rintro e w1 ⟨rfl, hq1⟩))
        go_ret2
        exact ⟨rfl, hq1.alloc _⟩
      · rw [sgn_true] at hr
        have h1 : 9223372036854775808 < big a b % 18446744073709551616 := by omega
        clear hr
        go_enter Try.func33, Try.ntmps33
        go_wp2_with (first | (go_at_call 36; refine (product_any _ _ _ Hm.out (by omega) (by omega) _).mono ?_; rintro e w1 ⟨rfl, hq1⟩))
        go_ret2
        exact ⟨rfl, hq1.alloc _⟩
end Go.Proofs.Ytjakhgcmfpldgaa
