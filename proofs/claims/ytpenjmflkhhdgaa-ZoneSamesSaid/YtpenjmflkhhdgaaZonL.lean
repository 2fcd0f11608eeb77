/- The walks of the laws ZoneLocals, ZoneSames, ZoneSplits. -/
import Derived.Test.YtpenjmflkhhdgaaZonK
namespace Go.Proofs.Ytpenjmflkhhdgaa
open Go.RowKit
set_option linter.unusedVariables false
theorem zoneLocals_walk (t z : Int) (wt : (Lit.int .i64 t).wf = true) (wz : (Lit.int .i64 z).wf = true) (w : World) :
    Calls Try.prog 4 #[.int .i64 t, .int .i64 z] w fun e w' => e = .returned (.bool true) ∧ Q w w' := by
  by_cases h : Zn.shOk t z
  · have he := fun w2 => eql6 (Cal.cY (t + 60 * z)) (Cal.cM (t + 60 * z)) (Cal.cD (t + 60 * z)) (Cal.cH (t + 60 * z)) (Cal.cI (t + 60 * z)) (Cal.cS (t + 60 * z)) (Cal.cY (t + 60 * z)) (Cal.cM (t + 60 * z)) (Cal.cD (t + 60 * z)) (Cal.cH (t + 60 * z)) (Cal.cI (t + 60 * z)) (Cal.cS (t + 60 * z)) w2
    simp only [same6_refl] at he
    go_enter Try.func4, Try.ntmps4
    go_wp2_with (first
      | (go_at_call 20; refine (local_ok _ _ h _).mono ?_; rintro e w1 ⟨rfl, hq1⟩)
      | (go_at_call 21; refine (rlocal_ok _ _ h _).mono ?_; rintro e w2 ⟨rfl, hq2⟩; obtain ⟨k0, k1, k2, k3, k4, k5, kz⟩ := box6 hq2)
      | (go_at_call 22; refine (mid_any _ _ _).mono ?_; rintro e w3 ⟨rfl, rfl⟩)
      | (go_at_call 23; refine (rmid_any _ _ _).mono ?_; rintro e w4 ⟨rfl, rfl⟩)
      | (go_at_call 24; refine (zweek_ok _ _ h _).mono ?_; rintro e w5 ⟨rfl, rfl⟩)
      | (go_at_call 25; refine (rzweek_ok _ _ h _).mono ?_; rintro e w6 ⟨rfl, rfl⟩)
      | (go_at_call 13; refine (works_any _).mono ?_; rintro e w7 ⟨rfl, hq7⟩))
    go_ret
    exact ⟨rfl, by repeat (first | exact Q.refl _ | assumption | refine Q.alloc ?_ _ | refine Q.drew ?_ | refine Q.trans ?_ (by assumption))⟩
  · have he := fun w2 => eql6 0 0 0 0 0 0 0 0 0 0 0 0 w2
    simp only [same6_refl] at he
    go_enter Try.func4, Try.ntmps4
    go_wp2_with (first
      | (go_at_call 20; refine (local_err _ _ h _).mono ?_; rintro e w1 ⟨rfl, hq1⟩)
      | (go_at_call 21; refine (rlocal_err _ _ h _).mono ?_; rintro e w2 ⟨rfl, hq2⟩; obtain ⟨k0, k1, k2, k3, k4, k5, kz⟩ := box6 hq2)
      | (go_at_call 22; refine (mid_any _ _ _).mono ?_; rintro e w3 ⟨rfl, rfl⟩)
      | (go_at_call 23; refine (rmid_any _ _ _).mono ?_; rintro e w4 ⟨rfl, rfl⟩)
      | (go_at_call 24; refine (zweek_err _ _ h _).mono ?_; rintro e w5 ⟨rfl, rfl⟩)
      | (go_at_call 25; refine (rzweek_err _ _ h _).mono ?_; rintro e w6 ⟨rfl, rfl⟩)
      | (go_at_call 13; refine (works_any _).mono ?_; rintro e w7 ⟨rfl, hq7⟩))
    go_ret
    exact ⟨rfl, by repeat (first | exact Q.refl _ | assumption | refine Q.alloc ?_ _ | refine Q.drew ?_ | refine Q.trans ?_ (by assumption))⟩
theorem zoneSames_walk (a b z : Int) (wa : (Lit.int .i64 a).wf = true) (wb : (Lit.int .i64 b).wf = true) (wz : (Lit.int .i64 z).wf = true) (w : World) :
    Calls Try.prog 7 #[.int .i64 a, .int .i64 b, .int .i64 z] w fun e w' => e = .returned (.bool true) ∧ Q w w' := by
  go_enter Try.func7, Try.ntmps7
  go_wp2_with (first
    | (go_at_call 29; refine (same_any _ _ _ _).mono ?_; rintro e w1 ⟨rfl, hq1⟩)
    | (go_at_call 30; refine (rsame_any _ _ _ _).mono ?_; rintro e w2 ⟨rfl, rfl⟩)
    | (go_at_call 13; refine (works_any _).mono ?_; rintro e w7 ⟨rfl, hq7⟩))
  go_ret
  exact ⟨rfl, by repeat (first | exact Q.refl _ | assumption | refine Q.alloc ?_ _ | refine Q.drew ?_ | refine Q.trans ?_ (by assumption))⟩
end Go.Proofs.Ytpenjmflkhhdgaa
