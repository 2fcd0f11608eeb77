/- The walk of the law ZoneBacks. -/
import Derived.Test.YtpenjmflkhhdgaaZonK
namespace Go.Proofs.Ytpenjmflkhhdgaa
open Go.RowKit
set_option linter.unusedVariables false
theorem zoneBacks_walk (y m d h i s z : Int) (wy : (Lit.int .i64 y).wf = true) (wm : (Lit.int .i64 m).wf = true) (wd : (Lit.int .i64 d).wf = true) (wh : (Lit.int .i64 h).wf = true) (wi : (Lit.int .i64 i).wf = true) (ws : (Lit.int .i64 s).wf = true) (wz : (Lit.int .i64 z).wf = true) (w : World) :
    Calls Try.prog 10 #[.agg #[.int .i64 y, .int .i64 m, .int .i64 d, .int .i64 h, .int .i64 i, .int .i64 s], .int .i64 z] w fun e w' => e = .returned (.bool true) ∧ Q w w' := by
  have hh := bd64 wh
  have hi := bd64 wi
  have hs := bd64 ws
  have k1 := fun w2 => back_any y m d h i s z hh hi hs w2
  have k2 := fun w2 => rback_any y m d h i s z hh hi hs w2
  clear wy wm wd wh wi ws wz hh hi hs
  go_enter Try.func10, Try.ntmps10
  go_wp2_with (first
    | (go_at_call 31; refine (k1 _).mono ?_; rintro e w1 ⟨rfl, hq1⟩; obtain ⟨x0, x1, x2, x3, x4, x5, xz⟩ := box6 hq1)
    | (go_at_call 32; refine (k2 _).mono ?_; rintro e w2 ⟨rfl, hq2⟩)
    | (go_at_call 13; refine (works_any _).mono ?_; rintro e w9 ⟨rfl, hq9⟩))
  go_ret
  exact ⟨rfl, by repeat (first | exact Q.refl _ | assumption | refine Q.alloc ?_ _ | refine Q.drew ?_ | refine Q.trans ?_ (by assumption))⟩
end Go.Proofs.Ytpenjmflkhhdgaa
