/- The walks of zone.Parse that come to the comparison: same. -/
import Derived.Test.YtpenjmflkhhdgaaZonF
import Derived.Deep.QuietTactic
import Derived.BigQuiet
import Derived.Deep.RegionWith
import Derived.Outline
namespace Go.Proofs.Ytpenjmflkhhdgaa
open Go.RowKit
set_option linter.unusedVariables false
set_option maxHeartbeats 2000000 in
theorem parse_same_p (x0 x1 x2 x3 x4 x5 N : Int) (h0 : 0 ≤ x0 ∧ x0 < 256) (h3 : 0 ≤ x3 ∧ x3 < 256) (d1 : 48 ≤ x1 ∧ x1 ≤ 57) (d2 : 48 ≤ x2 ∧ x2 ≤ 57) (d4 : 48 ≤ x4 ∧ x4 ≤ 57) (d5 : 48 ≤ x5 ∧ x5 ≤ 57) (hN : 600 * (x1 - 48) + 60 * (x2 - 48) + 10 * (x4 - 48) + (x5 - 48) = N) (hs : x0 ≠ 45) (hz : Zn.zOk N) (hd : (!(Zn.c0 N == x0 && (Zn.c1 N == x1 && (Zn.c2 N == x2 && (58 == x3 && (Zn.c4 N == x4 && Zn.c5 N == x5)))))) = false) (w : World) :
    Calls Try.prog 16 #[.string (b6 x0 x1 x2 x3 x4 x5)] w fun e w' => e = .returned (.tuple #[.int .i64 N, .int .i64 0]) ∧ Q w w' := by
  have hcp := copy6' w x0 x1 x2 x3 x4 x5 h0 (by omega) (by omega) h3 (by omega) (by omega)
  have hsz := b6_size x0 x1 x2 x3 x4 x5
  have k0 := kdx0
  have k1 := kdx1
  have k2 := kdx2
  have k3 := kdx3
  have hb : (x0 == 45) = false := beq_f hs
  have hne := fun w2 => (neqs (Zn.c0 N) (Zn.c1 N) (Zn.c2 N) 58 (Zn.c4 N) (Zn.c5 N) x0 x1 x2 x3 x4 x5 w2).trans (congrArg (fun b => Result.ok (Value.bool b) w2) hd)
  clear hd
  go_enter Try.func16, Try.ntmps16
  go_wp2_with fail
  refine wp_loop_rounds 5 ?_; rw [rounds_succ]
  go_wp2_with fail
  rw [rounds_succ]
  go_wp2_with fail
  rw [rounds_succ]
  go_wp2_with fail
  rw [rounds_succ]
  go_wp2_with fail
  rw [rounds_succ]
  go_wp2_with fail
  go_region_with (first
    | (go_at_call 18; refine (check_ok _ hz _).mono ?_; rintro e w1 ⟨rfl, rfl⟩)
    | (go_at_call 33; refine (write_any _ hz _).mono ?_; rintro e w2 ⟨rfl, hq2⟩; obtain ⟨j0, j1, j2, j3, j4, j5, jz⟩ := box6 ((Q.refl _).drew.trans hq2)))
  all_goals
    go_wp2_with fail
    go_ret2
    exact ⟨rfl, by repeat (first | exact Q.refl _ | assumption | refine Q.alloc ?_ _ | refine Q.drew ?_ | refine Q.trans ?_ (by assumption))⟩
set_option maxHeartbeats 2000000 in
theorem parse_same_n (x1 x2 x3 x4 x5 N A : Int) (h3 : 0 ≤ x3 ∧ x3 < 256) (d1 : 48 ≤ x1 ∧ x1 ≤ 57) (d2 : 48 ≤ x2 ∧ x2 ≤ 57) (d4 : 48 ≤ x4 ∧ x4 ≤ 57) (d5 : 48 ≤ x5 ∧ x5 ≤ 57) (hN : 600 * (x1 - 48) + 60 * (x2 - 48) + 10 * (x4 - 48) + (x5 - 48) = N) (hA : -N = A) (hz : Zn.zOk A) (hd : (!(Zn.c0 A == 45 && (Zn.c1 A == x1 && (Zn.c2 A == x2 && (58 == x3 && (Zn.c4 A == x4 && Zn.c5 A == x5)))))) = false) (w : World) :
    Calls Try.prog 16 #[.string (b6 45 x1 x2 x3 x4 x5)] w fun e w' => e = .returned (.tuple #[.int .i64 A, .int .i64 0]) ∧ Q w w' := by
  have hcp := copy6' w 45 x1 x2 x3 x4 x5 (by omega) (by omega) (by omega) h3 (by omega) (by omega)
  have hsz := b6_size 45 x1 x2 x3 x4 x5
  have k0 := kdx0
  have k1 := kdx1
  have k2 := kdx2
  have k3 := kdx3
  have hne := fun w2 => (neqs (Zn.c0 A) (Zn.c1 A) (Zn.c2 A) 58 (Zn.c4 A) (Zn.c5 A) 45 x1 x2 x3 x4 x5 w2).trans (congrArg (fun b => Result.ok (Value.bool b) w2) hd)
  clear hd
  go_enter Try.func16, Try.ntmps16
  go_wp2_with fail
  refine wp_loop_rounds 5 ?_; rw [rounds_succ]
  go_wp2_with fail
  rw [rounds_succ]
  go_wp2_with fail
  rw [rounds_succ]
  go_wp2_with fail
  rw [rounds_succ]
  go_wp2_with fail
  rw [rounds_succ]
  go_wp2_with fail
  go_region_with (first
    | (go_at_call 18; refine (check_ok _ hz _).mono ?_; rintro e w1 ⟨rfl, rfl⟩)
    | (go_at_call 33; refine (write_any _ hz _).mono ?_; rintro e w2 ⟨rfl, hq2⟩; obtain ⟨j0, j1, j2, j3, j4, j5, jz⟩ := box6 ((Q.refl _).drew.trans hq2)))
  all_goals
    go_wp2_with fail
    go_ret2
    exact ⟨rfl, by repeat (first | exact Q.refl _ | assumption | refine Q.alloc ?_ _ | refine Q.drew ?_ | refine Q.trans ?_ (by assumption))⟩
end Go.Proofs.Ytpenjmflkhhdgaa
