/- The walks of zone.Parse that come to the comparison: far. -/
import Derived.Test.YtpenjmflkhhdgaaZonF
import Derived.Deep.QuietTactic
import Derived.BigQuiet
import Derived.Deep.RegionWith
import Derived.Outline
namespace Go.Proofs.Ytpenjmflkhhdgaa
open Go.RowKit
set_option linter.unusedVariables false
set_option maxHeartbeats 2000000 in
theorem parse_far_p (x0 x1 x2 x3 x4 x5 N : Int) (h0 : 0 ≤ x0 ∧ x0 < 256) (h3 : 0 ≤ x3 ∧ x3 < 256) (d1 : 48 ≤ x1 ∧ x1 ≤ 57) (d2 : 48 ≤ x2 ∧ x2 ≤ 57) (d4 : 48 ≤ x4 ∧ x4 ≤ 57) (d5 : 48 ≤ x5 ∧ x5 ≤ 57) (hN : 600 * (x1 - 48) + 60 * (x2 - 48) + 10 * (x4 - 48) + (x5 - 48) = N) (hs : x0 ≠ 45) (hz : ¬ Zn.zOk N) (w : World) :
    Calls Try.prog 16 #[.string (b6 x0 x1 x2 x3 x4 x5)] w fun e w' => e = .returned (.tuple #[.int .i64 0, .int .i64 10]) ∧ Q w w' := by
  have hcp := copy6' w x0 x1 x2 x3 x4 x5 h0 (by omega) (by omega) h3 (by omega) (by omega)
  have hsz := b6_size x0 x1 x2 x3 x4 x5
  have k0 := kdx0
  have k1 := kdx1
  have k2 := kdx2
  have k3 := kdx3
  have hb : (x0 == 45) = false := beq_f hs
  go_enter Try.func16, Try.ntmps16
  go_wp2_with fail
  refine wp_loop_rounds 5 ?_; rw [rounds_succ]
  go_wp2_with fail
  rw [rounds_succ]
  go_wp2_with fail
  rw [rounds_succ]
  go_wp2_with fail
  rw [rounds_succ]
  go_wp2_with fail
  rw [rounds_succ]
  go_wp2_with fail
  go_quiet (first | (go_at_call 18; exact Calls.quiet_of_same ((check_bad _ hz _).mono fun _ _ h => ⟨h.1, h.2.symm⟩)))
  go_wp2
  go_ret2
  exact ⟨rfl, ((Q.refl _).alloc _).drewN _⟩
set_option maxHeartbeats 2000000 in
theorem parse_far_n (x1 x2 x3 x4 x5 N A : Int) (h3 : 0 ≤ x3 ∧ x3 < 256) (d1 : 48 ≤ x1 ∧ x1 ≤ 57) (d2 : 48 ≤ x2 ∧ x2 ≤ 57) (d4 : 48 ≤ x4 ∧ x4 ≤ 57) (d5 : 48 ≤ x5 ∧ x5 ≤ 57) (hN : 600 * (x1 - 48) + 60 * (x2 - 48) + 10 * (x4 - 48) + (x5 - 48) = N) (hA : -N = A) (hz : ¬ Zn.zOk A) (w : World) :
    Calls Try.prog 16 #[.string (b6 45 x1 x2 x3 x4 x5)] w fun e w' => e = .returned (.tuple #[.int .i64 0, .int .i64 10]) ∧ Q w w' := by
  have hcp := copy6' w 45 x1 x2 x3 x4 x5 (by omega) (by omega) (by omega) h3 (by omega) (by omega)
  have hsz := b6_size 45 x1 x2 x3 x4 x5
  have k0 := kdx0
  have k1 := kdx1
  have k2 := kdx2
  have k3 := kdx3
  go_enter Try.func16, Try.ntmps16
  go_wp2_with fail
  refine wp_loop_rounds 5 ?_; rw [rounds_succ]
  go_wp2_with fail
  rw [rounds_succ]
  go_wp2_with fail
  rw [rounds_succ]
  go_wp2_with fail
  rw [rounds_succ]
  go_wp2_with fail
  rw [rounds_succ]
  go_wp2_with fail
  go_quiet (first | (go_at_call 18; exact Calls.quiet_of_same ((check_bad _ hz _).mono fun _ _ h => ⟨h.1, h.2.symm⟩)))
  go_wp2
  go_ret2
  exact ⟨rfl, ((Q.refl _).alloc _).drewN _⟩
end Go.Proofs.Ytpenjmflkhhdgaa
