/- The contracts of every.Is, Next, Prev. -/
import Derived.Test.YtfhplhfgcanfbaaEvB
namespace Go.Proofs.Ytfhplhfgcanfbaa
open Go.RowKit
set_option linter.unusedVariables false
set_option linter.unusedSimpArgs false
set_option maxHeartbeats 800000 in
theorem is_ok (s p c t : Int) (h : Ev.Ok s p c) (ht : Ev.TOk t) (w : World) :
    Calls Try.prog 21 #[.agg #[.int .i64 s, .int .i64 p, .int .i64 c], .int .i64 t] w fun e w' => e = .returned (.tuple #[.bool (Ev.isB s p c t), .int .i64 0]) ∧ Q w w' := by
  have k1 := fun b w2 => of_one s p c h t ht b w2
  have k2 := fun w2 => has_any s p c t h (by unfold Ev.TOk at ht; omega) w2
  obtain ⟨n, hn⟩ : ∃ n, Ev.num s p c = n := ⟨_, rfl⟩
  obtain ⟨I, hI⟩ : ∃ I, Ev.isB s p c t = I := ⟨_, rfl⟩
  rw [hn] at k1
  rw [hn, hI] at k2
  rw [hI]
  clear hn hI h ht
  go_enter Try.func21, Try.ntmps21
  go_wp2_with (first
    | (go_at_call 34; refine (k1 _ _ (by simp) (by simp)).mono ?_; rintro e w1 ⟨rfl, hq1⟩; obtain ⟨x1, x2, x3⟩ := qcell hq1)
    | (go_at_call 43; refine (k2 _).mono ?_; rintro e w2 ⟨rfl, hq2⟩))
  go_ret2
  exact ⟨rfl, by repeat (first | exact Q.refl _ | assumption | refine Q.alloc ?_ _ | refine Q.drew ?_ | refine Q.drewN ?_ _ | refine Q.trans ?_ (by assumption))⟩
theorem is_bad (s p c t : Int) (h : ¬ Ev.Ok s p c) (w : World) :
    Calls Try.prog 21 #[.agg #[.int .i64 s, .int .i64 p, .int .i64 c], .int .i64 t] w fun e w' => e = .returned (.tuple #[.bool false, .int .i64 16]) ∧ Q w w' := by
  have k1 := fun v w2 => of_bad s p c v h w2
  clear h
  go_enter Try.func21, Try.ntmps21
  go_wp2_with (first
    | (go_at_call 34; refine (k1 _ _).mono ?_; rintro e w1 ⟨rfl, hq1⟩; obtain ⟨x1, x2, x3⟩ := qcell hq1))
  go_ret2
  exact ⟨rfl, by repeat (first | exact Q.refl _ | assumption | refine Q.alloc ?_ _ | refine Q.drew ?_ | refine Q.drewN ?_ _ | refine Q.trans ?_ (by assumption))⟩
theorem is_time (s p c t : Int) (h : Ev.Ok s p c) (ht : ¬ Ev.TOk t) (w : World) :
    Calls Try.prog 21 #[.agg #[.int .i64 s, .int .i64 p, .int .i64 c], .int .i64 t] w fun e w' => e = .returned (.tuple #[.bool false, .int .i64 14]) ∧ Q w w' := by
  have k1 := fun b w2 => of_one_bad s p c h t ht b w2
  clear h ht
  go_enter Try.func21, Try.ntmps21
  go_wp2_with (first
    | (go_at_call 34; refine (k1 _ _ (by simp) (by simp)).mono ?_; rintro e w1 ⟨rfl, hq1⟩; obtain ⟨x1, x2, x3⟩ := qcell hq1))
  go_ret2
  exact ⟨rfl, by repeat (first | exact Q.refl _ | assumption | refine Q.alloc ?_ _ | refine Q.drew ?_ | refine Q.drewN ?_ _ | refine Q.trans ?_ (by assumption))⟩
end Go.Proofs.Ytfhplhfgcanfbaa
