/- The examples of the chapter hold: the contract of works. -/
import Derived.Test.YtpenjmflkhhdgaaZonJ
namespace Go.Proofs.Ytpenjmflkhhdgaa
open Go.RowKit
set_option linter.unusedVariables false
theorem k_text (w : World) : Calls Try.prog 14 #[.int .i64 330] w fun e w' => e = .returned (.tuple #[.string ⟨#[43, 48, 53, 58, 51, 48]⟩, .int .i64 0]) ∧ Q w w' := text_ok 330 (by unfold Zn.zOk; omega) w
theorem k_parse (w : World) : Calls Try.prog 16 #[.string ⟨#[45, 49, 52, 58, 48, 48]⟩] w fun e w' => e = .returned (.tuple #[.int .i64 (-840), .int .i64 0]) ∧ Q w w' := parse_hit (-840) (by unfold Zn.zOk; omega) w
theorem k_local (w : World) : Calls Try.prog 20 #[.int .i64 0, .int .i64 90] w fun e w' => e = .returned (.tuple #[.agg #[.int .i64 1970, .int .i64 1, .int .i64 1, .int .i64 1, .int .i64 30, .int .i64 0], .int .i64 0]) ∧ Q w w' := local_ok 0 90 (by unfold Zn.shOk Zn.zOk Cal.timeOk; omega) w
theorem k_mid (w : World) : Calls Try.prog 22 #[.int .i64 90000, .int .i64 60] w fun e w' => e = .returned (.tuple #[.int .i64 82800, .int .i64 0]) ∧ w = w' := mid_any 90000 60 w
theorem k_week (w : World) : Calls Try.prog 24 #[.int .i64 86399, .int .i64 1] w fun e w' => e = .returned (.tuple #[.int .i64 5, .int .i64 0]) ∧ w = w' := zweek_ok 86399 1 (by unfold Zn.shOk Zn.zOk Cal.timeOk; omega) w
theorem works_any (w : World) : Calls Try.prog 13 #[] w fun e w' => e = .returned (.bool true) ∧ Q w w' := by
  have he := fun w2 => eql6 1970 1 1 1 30 0 1970 1 1 1 30 0 w2
  go_enter Try.func13, Try.ntmps13
  go_wp2_with (first
    | (go_at_call 14; refine (k_text _).mono ?_; rintro e w1 ⟨rfl, hq1⟩)
    | (go_at_call 16; refine (k_parse _).mono ?_; rintro e w2 ⟨rfl, hq2⟩)
    | (go_at_call 20; refine (k_local _).mono ?_; rintro e w3 ⟨rfl, hq3⟩)
    | (go_at_call 22; refine (k_mid _).mono ?_; rintro e w4 ⟨rfl, rfl⟩)
    | (go_at_call 24; refine (k_week _).mono ?_; rintro e w5 ⟨rfl, rfl⟩))
  go_ret
  exact ⟨rfl, by repeat (first | exact Q.refl _ | assumption | refine Q.alloc ?_ _ | refine Q.drew ?_ | refine Q.trans ?_ (by assumption))⟩
end Go.Proofs.Ytpenjmflkhhdgaa
