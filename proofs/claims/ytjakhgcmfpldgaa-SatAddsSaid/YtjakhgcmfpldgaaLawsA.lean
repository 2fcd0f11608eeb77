/- The walks of the laws SatSums, SatPowers, SatQuotients, SatProducts: each returns true. -/
import Derived.Test.YtjakhgcmfpldgaaWorks
namespace Go.Proofs.Ytjakhgcmfpldgaa
open Go.RowKit
set_option linter.unusedVariables false
theorem bd64 {a : Int} (h : (Lit.int .i64 a).wf = true) : -9223372036854775808 ≤ a ∧ a ≤ 9223372036854775807 := by
  have hmin : IntKind.i64.min = -9223372036854775808 := rfl
  have hmax : IntKind.i64.max = 9223372036854775807 := rfl
  simp only [Lit.wf, Bool.and_eq_true, decide_eq_true_eq] at h; omega
theorem satSums_walk (a b : Int) (wa : (Lit.int .i64 a).wf = true) (wb : (Lit.int .i64 b).wf = true) (w : World) :
    Calls Try.prog 3 #[.int .i64 a, .int .i64 b] w fun e w' => e = .returned (.bool true) ∧ Q w w' := by
  have ha := bd64 wa
  have hb := bd64 wb
  go_enter Try.func3, Try.ntmps3
  go_wp2_with (first
    | (go_at_call 14; refine (plus_any _ _ ha hb _).mono ?_; rintro e w1 ⟨rfl, rfl⟩)
    | (go_at_call 15; refine (rplus_any _ _ ha hb _).mono ?_; rintro e w1 ⟨rfl, rfl⟩)
    | (go_at_call 16; refine (clip_any _ _).mono ?_; rintro e w1 ⟨rfl, rfl⟩)
    | (go_at_call 17; refine (rclip_any _ _).mono ?_; rintro e w1 ⟨rfl, rfl⟩)
    | (go_at_call 18; refine (add_any _ _ _).mono ?_; rintro e w1 ⟨rfl, rfl⟩)
    | (go_at_call 19; refine (radd_any _ _ _).mono ?_; rintro e w1 ⟨rfl, rfl⟩)
    | (go_at_call 20; refine (sub_any _ _ _).mono ?_; rintro e w1 ⟨rfl, rfl⟩)
    | (go_at_call 21; refine (rsub_any _ _ _).mono ?_; rintro e w1 ⟨rfl, rfl⟩)
    | (go_at_call 22; refine (works_any _).mono ?_; rintro e w1 ⟨rfl, hq1⟩))
  go_ret
  exact ⟨rfl, by repeat (first | exact Q.refl _ | assumption | refine Q.alloc ?_ _ | refine Q.trans ?_ (by assumption))⟩
theorem satPowers_walk (a n : Int) (wa : (Lit.int .i64 a).wf = true) (wn : (Lit.int .i64 n).wf = true) (w : World) :
    Calls Try.prog 4 #[.int .i64 a, .int .i64 n] w fun e w' => e = .returned (.bool true) ∧ Q w w' := by
  have hn := bd64 wn
  go_enter Try.func4, Try.ntmps4
  go_wp2_with (first
    | (go_at_call 23; refine (pow_all _ _ hn _).mono ?_; rintro e w1 ⟨rfl, hq1⟩)
    | (go_at_call 24; refine (rpow_all _ _ hn _).mono ?_; rintro e w2 ⟨rfl, hq2⟩)
    | (go_at_call 22; refine (works_any _).mono ?_; rintro e w3 ⟨rfl, hq3⟩))
  go_ret
  exact ⟨rfl, by repeat (first | exact Q.refl _ | assumption | refine Q.alloc ?_ _ | refine Q.trans ?_ (by assumption))⟩
theorem satQuotients_walk (a b : Int) (wa : (Lit.int .i64 a).wf = true) (wb : (Lit.int .i64 b).wf = true) (w : World) :
    Calls Try.prog 10 #[.int .i64 a, .int .i64 b] w fun e w' => e = .returned (.bool true) ∧ Q w w' := by
  have ha := bd64 wa
  have hb := bd64 wb
  go_enter Try.func10, Try.ntmps10
  go_wp2_with (first
    | (go_at_call 29; refine (div_any _ _ ha hb _).mono ?_; rintro e w1 ⟨rfl, hq1⟩)
    | (go_at_call 30; refine (rdiv_any _ _ ha hb _).mono ?_; rintro e w2 ⟨rfl, hq2⟩)
    | (go_at_call 31; refine (ceil_any _ _ ha hb _).mono ?_; rintro e w3 ⟨rfl, hq3⟩)
    | (go_at_call 32; refine (rceil_any _ _ ha hb _).mono ?_; rintro e w4 ⟨rfl, hq4⟩)
    | (go_at_call 22; refine (works_any _).mono ?_; rintro e w5 ⟨rfl, hq5⟩))
  go_ret
  exact ⟨rfl, by repeat (first | exact Q.refl _ | assumption | refine Q.alloc ?_ _ | refine Q.trans ?_ (by assumption))⟩
theorem satProducts_walk (a b : Int) (wa : (Lit.int .i64 a).wf = true) (wb : (Lit.int .i64 b).wf = true) (w : World) :
    Calls Try.prog 11 #[.int .i64 a, .int .i64 b] w fun e w' => e = .returned (.bool true) ∧ Q w w' := by
  have ha := bd64 wa
  have hb := bd64 wb
  go_enter Try.func11, Try.ntmps11
  go_wp2_with (first
    | (go_at_call 33; refine (times_any _ _ ha hb _).mono ?_; rintro e w1 ⟨rfl, hq1⟩)
    | (go_at_call 34; refine (rtimes_any _ _ ha hb _).mono ?_; rintro e w2 ⟨rfl, rfl⟩)
    | (go_at_call 27; refine (mul_any _ _ _).mono ?_; rintro e w3 ⟨rfl, hq3⟩)
    | (go_at_call 35; refine (rmul_any _ _ _).mono ?_; rintro e w4 ⟨rfl, hq4⟩)
    | (go_at_call 22; refine (works_any _).mono ?_; rintro e w5 ⟨rfl, hq5⟩))
  go_ret
  exact ⟨rfl, by repeat (first | exact Q.refl _ | assumption | refine Q.alloc ?_ _ | refine Q.trans ?_ (by assumption))⟩
end Go.Proofs.Ytjakhgcmfpldgaa
