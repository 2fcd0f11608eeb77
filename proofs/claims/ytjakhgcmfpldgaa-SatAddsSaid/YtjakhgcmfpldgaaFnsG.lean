/- The contract of sat.Pow at an exponent from 0 on. -/
import Derived.Test.YtjakhgcmfpldgaaFnsF
namespace Go.Proofs.Ytjakhgcmfpldgaa
open Go.RowKit
set_option linter.unusedVariables false
def PowRel (a : Int) (N : Nat) (w : World) (va vp vi : Value) (wr : World) : Prop :=
  ∃ (k : Nat) (x : Int), k ≤ 63 ∧ vi = .int .i64 k ∧ vp = .int .i64 (Sat.clip (a ^ (N % 2 ^ k))) ∧ va = .int .i64 x ∧ Sat.clip x = Sat.clip (a ^ (2 ^ k)) ∧ Q w wr
theorem bit_of (N k : Nat) : (bits .and .i64 ((N : Int) / 2 ^ k) 1 == 1) = decide (N / 2 ^ k % 2 = 1) := by
  rw [i64_and1]
  have e : ((N : Int) / 2 ^ k) = ((N / 2 ^ k : Nat) : Int) := by simp
  rw [e]
  by_cases h : N / 2 ^ k % 2 = 1
  · rw [decide_eq_true h]; rw [beq_iff_eq]; omega
  · rw [decide_eq_false h]; rw [beq_eq_false_iff_ne]; omega
theorem pow_step_yes {a x : Int} {N k : Nat} (h : N / 2 ^ k % 2 = 1) (hx : Sat.clip x = Sat.clip (a ^ (2 ^ k))) :
    Sat.mul (Sat.clip (a ^ (N % 2 ^ k))) x = Sat.clip (a ^ (N % 2 ^ (k + 1))) := by
  rw [Sat.pow_bit, if_pos h]
  unfold Sat.mul
  rw [hx, Sat.clip_clip (a ^ (2 ^ k))]
theorem pow_step_no {a : Int} {N k : Nat} (h : ¬ N / 2 ^ k % 2 = 1) :
    Sat.clip (a ^ (N % 2 ^ k)) = Sat.clip (a ^ (N % 2 ^ (k + 1))) := by
  rw [Sat.pow_bit, if_neg h]
theorem pow_start (a : Int) (N : Nat) : (1 : Int) = Sat.clip (a ^ (N % 2 ^ 0)) ∧ Sat.clip a = Sat.clip (a ^ (2 ^ 0)) := by
  rw [Nat.pow_zero, Nat.mod_one, Int.pow_zero]
  exact ⟨rfl, by rw [show a ^ 1 = a from Int.pow_succ a 0 |>.trans (by simp)]⟩
theorem val_int {k : IntKind} {a b : Int} (h : a = b) : Value.int k a = .int k b := by rw [h]
theorem pow_any (a : Int) (N : Nat) (hN : N < 9223372036854775808) (w : World) :
    Calls Try.prog 23 #[.int .i64 a, .int .i64 (N : Int)] w fun e w' => e = .returned (.int .i64 (Sat.clip (a ^ N))) ∧ Q w w' := by
  go_enter Try.func23, Try.ntmps23
  go_wp2_with fail
  go_loopw [0, 5, 9] (fun va vp vi wr => PowRel a N w va vp vi wr) (fun _ _ vi _ => (63 - intOf vi).toNat)
  case atStart => exact ⟨0, a, by omega, rfl, val_int (pow_start a N).1, rfl, (pow_start a N).2, Q.refl _⟩
  case round =>
    obtain ⟨k, x, hk, rfl, rfl, rfl, hx, hq⟩ := hrel
    have Hx := Lib.hid hx; clear hx
    by_cases hlt : k < 63
    · by_cases hb : N / 2 ^ k % 2 = 1
      · have hb' : (bits .and .i64 ((N : Int) / 2 ^ k) 1 == 1) = true := by rw [bit_of, decide_eq_true hb]
        have Hb := Lib.hid hb; clear hb
        go_wp2_with (go_at_call 27; refine (mul_any _ _ _).mono ?_; rintro e w1 ⟨rfl, hq1⟩)
        go_roundw
        case rel => exact ⟨k + 1, _, by omega, by go_num, val_int (pow_step_yes Hb.out Hx.out), rfl, Sat.pow_square a k Hx.out, by repeat (first | assumption | refine Q.trans ?_ (by assumption))⟩
        case measure => simp [intOf]; omega
      · have hb' : (bits .and .i64 ((N : Int) / 2 ^ k) 1 == 1) = false := by rw [bit_of, decide_eq_false hb]
        have Hb := Lib.hid hb; clear hb
        go_wp2_with (go_at_call 27; refine (mul_any _ _ _).mono ?_; rintro e w1 ⟨rfl, hq1⟩)
        go_roundw
        case rel => exact ⟨k + 1, _, by omega, by go_num, val_int (pow_step_no Hb.out), rfl, Sat.pow_square a k Hx.out, by repeat (first | assumption | refine Q.trans ?_ (by assumption))⟩
        case measure => simp [intOf]; omega
    · have hk' : k = 63 := by omega
      have Hk := Lib.hid hk'; clear hk'
      go_wp2_with fail
      go_ret
      exact ⟨ret_int (by rw [Hk.out, Nat.mod_eq_of_lt (Nat.lt_of_lt_of_le hN (by decide))]), hq⟩
end Go.Proofs.Ytjakhgcmfpldgaa
