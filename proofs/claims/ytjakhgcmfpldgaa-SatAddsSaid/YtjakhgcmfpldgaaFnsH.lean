/- The contracts of both Pow. -/
import Derived.Test.YtjakhgcmfpldgaaFnsG
namespace Go.Proofs.Ytjakhgcmfpldgaa
open Go.RowKit
set_option linter.unusedVariables false
def RPowRel (a : Int) (M : Nat) (w : World) (vp vi : Value) (wr : World) : Prop :=
  ∃ k : Nat, k ≤ M ∧ vi = .int .i64 k ∧ vp = .int .i64 (Sat.clip (a ^ k)) ∧ Q w wr
theorem rpow_step (a : Int) (k : Nat) : Sat.mul (Sat.clip (a ^ k)) a = Sat.clip (a ^ (k + 1)) := by
  unfold Sat.mul; rw [Sat.clip_clip, Sat.clip_mul, Int.pow_succ]
theorem rpow_start (a : Int) : (1 : Int) = Sat.clip (a ^ 0) := by rw [Int.pow_zero]; rfl
theorem rpow_any (a : Int) (N : Nat) (hN : N < 9223372036854775808) (w : World) :
    Calls Try.prog 24 #[.int .i64 a, .int .i64 (N : Int)] w fun e w' => e = .returned (.int .i64 (Sat.clip (a ^ N))) ∧ Q w w' := by
  by_cases hbig : 100 < N
  · have e := Sat.pow_cut a hbig
    rw [← e]
    have E := Lib.hid e; clear e
    have hd : decide ((100 : Int) < (N : Int)) = true := decide_eq_true (by omega)
    have hd0 : decide ((N : Int) < 0) = false := decide_eq_false (by omega)
    go_enter Try.func24, Try.ntmps24
    go_wp2_with fail
    go_loopw [5, 6] (fun vp vi wr => RPowRel a (100 + N % 2) w vp vi wr) (fun _ vi _ => (100 + N % 2 - intOf vi).toNat)
    case atStart => exact ⟨0, by omega, rfl, val_int (rpow_start a), Q.refl _⟩
    case round =>
      obtain ⟨k, hk, rfl, rfl, hq⟩ := hrel
      by_cases hlt : k < 100 + N % 2
      · have hlt' : (k : Int) < 100 + (N : Int) % 2 := by omega
        go_wp2_with (go_at_call 35; refine (rmul_any _ _ _).mono ?_; rintro e w1 ⟨rfl, hq1⟩)
        go_roundw
        case rel => exact ⟨k + 1, by omega, by go_num, val_int (rpow_step a k), by repeat (first | assumption | refine Q.trans ?_ (by assumption))⟩
        case measure => simp [intOf]; omega
      · have hlt' : 100 + (N : Int) % 2 ≤ (k : Int) := by omega
        have hk' : k = 100 + N % 2 := by omega
        have Hk := Lib.hid hk'; clear hk'
        go_wp2_with fail
        go_ret
        exact ⟨ret_int (by rw [Hk.out]), hq⟩
  · go_enter Try.func24, Try.ntmps24
    go_wp2_with fail
    go_loopw [5, 6] (fun vp vi wr => RPowRel a N w vp vi wr) (fun _ vi _ => (N - intOf vi).toNat)
    case atStart => exact ⟨0, by omega, rfl, val_int (rpow_start a), Q.refl _⟩
    case round =>
      obtain ⟨k, hk, rfl, rfl, hq⟩ := hrel
      by_cases hlt : k < N
      · go_wp2_with (go_at_call 35; refine (rmul_any _ _ _).mono ?_; rintro e w1 ⟨rfl, hq1⟩)
        go_roundw
        case rel => exact ⟨k + 1, by omega, by go_num, val_int (rpow_step a k), by repeat (first | assumption | refine Q.trans ?_ (by assumption))⟩
        case measure => simp [intOf]; omega
      · have hk' : k = N := by omega
        have Hk := Lib.hid hk'; clear hk'
        go_wp2_with fail
        go_ret
        exact ⟨ret_int (by rw [Hk.out]), hq⟩
theorem pow_all (a n : Int) (hn : -9223372036854775808 ≤ n ∧ n ≤ 9223372036854775807) (w : World) :
    Calls Try.prog 23 #[.int .i64 a, .int .i64 n] w fun e w' => e = .returned (.int .i64 (Sat.pow a n)) ∧ Q w w' := by
  unfold Sat.pow
  by_cases h : n < 0
  · rw [if_pos h]
    go_enter Try.func23, Try.ntmps23
    go_wp2_with fail
    go_ret
    exact ⟨rfl, Q.refl _⟩
  · rw [if_neg h]
    have e : n = (n.toNat : Int) := by omega
    have := pow_any a n.toNat (by omega) w
    rwa [← e] at this
theorem rpow_all (a n : Int) (hn : -9223372036854775808 ≤ n ∧ n ≤ 9223372036854775807) (w : World) :
    Calls Try.prog 24 #[.int .i64 a, .int .i64 n] w fun e w' => e = .returned (.int .i64 (Sat.pow a n)) ∧ Q w w' := by
  unfold Sat.pow
  by_cases h : n < 0
  · rw [if_pos h]
    go_enter Try.func24, Try.ntmps24
    go_wp2_with fail
    go_ret
    exact ⟨rfl, Q.refl _⟩
  · rw [if_neg h]
    have e : n = (n.toNat : Int) := by omega
    have := rpow_any a n.toNat (by omega) w
    rwa [← e] at this
end Go.Proofs.Ytjakhgcmfpldgaa
