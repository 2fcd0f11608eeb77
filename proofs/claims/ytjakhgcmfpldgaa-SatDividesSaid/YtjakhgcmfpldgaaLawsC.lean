/- The walks of the laws SatSmall and SatDivides: each returns true. -/
import Derived.Test.YtjakhgcmfpldgaaLawsA
namespace Go.Proofs.Ytjakhgcmfpldgaa
open Go.RowKit
set_option linter.unusedVariables false
theorem fits_of {a : Int} (h : -9223372036854775808 ≤ a ∧ a ≤ 9223372036854775807) : Sat.fits a = true := (Sat.fits_iff a).2 h
theorem mul_le_sq {x y M : Int} (hx : -M ≤ x ∧ x ≤ M) (hy : -M ≤ y ∧ y ≤ M) : -(M * M) ≤ x * y ∧ x * y ≤ M * M := by
  have h1 : x.natAbs * y.natAbs ≤ M.natAbs * M.natAbs := Nat.mul_le_mul (by omega) (by omega)
  have h2 : (x * y).natAbs = x.natAbs * y.natAbs := Int.natAbs_mul x y
  have h3 : (M * M).natAbs = M.natAbs * M.natAbs := Int.natAbs_mul M M
  have h4 : 0 ≤ M * M := Int.mul_nonneg (by omega) (by omega)
  omega
theorem satSmall_walk (a b : Int) (wa : (Lit.int .i64 a).wf = true) (wb : (Lit.int .i64 b).wf = true) (w : World) :
    Calls Try.prog 12 #[.int .i64 a, .int .i64 b] w fun e w' => e = .returned (.bool true) ∧ Q w w' := by
  have ha := bd64 wa
  have hb := bd64 wb
  have e1 : Sat.add (a / 4) (b / 4) = a / 4 + b / 4 := by
    unfold Sat.add; rw [Sat.clip_mid (a := a / 4) (by omega) (by omega), Sat.clip_mid (a := b / 4) (by omega) (by omega), Sat.clip_mid (by omega) (by omega)]
  have e2 : Sat.sub (a / 4) (b / 4) = a / 4 - b / 4 := by
    unfold Sat.sub; rw [Sat.clip_mid (a := a / 4) (by omega) (by omega), Sat.clip_mid (a := b / 4) (by omega) (by omega), Sat.clip_mid (by omega) (by omega)]
  have e3 : Sat.plusV (a / 4) (b / 4) = a / 4 + b / 4 := if_pos (fits_of (by omega))
  have e4 : Sat.plusE (a / 4) (b / 4) = 0 := if_pos (fits_of (by omega))
  have e5 : Sat.sub (a / 4 + b / 4) (b / 4) = a / 4 := by
    unfold Sat.sub; rw [Sat.clip_mid (a := b / 4) (by omega) (by omega), Sat.clip_mid (a := a / 4 + b / 4) (by omega) (by omega), Sat.clip_mid (by omega) (by omega)]; omega
  have hm := mul_le_sq (x := a / 4294967296) (y := b / 4294967296) (M := 2147483648) (by omega) (by omega)
  have e6 : Sat.mul (a / 4294967296) (b / 4294967296) = a / 4294967296 * (b / 4294967296) := by
    unfold Sat.mul; rw [Sat.clip_mid (a := a / 4294967296) (by omega) (by omega), Sat.clip_mid (a := b / 4294967296) (by omega) (by omega), Sat.clip_mid (by omega) (by omega)]
  have e7 : Sat.timesV (a / 4294967296) (b / 4294967296) = a / 4294967296 * (b / 4294967296) := if_pos (fits_of (by omega))
  have e8 : Sat.timesE (a / 4294967296) (b / 4294967296) = 0 := if_pos (fits_of (by omega))
  have hm' : -9223372036854775808 ≤ a / 4294967296 * (b / 4294967296) ∧ a / 4294967296 * (b / 4294967296) ≤ 9223372036854775807 := by omega
  clear hm
  go_enter Try.func12, Try.ntmps12
  go_wp2_with (first
    | (go_at_call 14; refine (plus_any _ _ (by omega) (by omega) _).mono ?_; rintro e w1 ⟨rfl, rfl⟩)
    | (go_at_call 18; refine (add_any _ _ _).mono ?_; rintro e w1 ⟨rfl, rfl⟩)
    | (go_at_call 20; refine (sub_any _ _ _).mono ?_; rintro e w1 ⟨rfl, rfl⟩)
    | (go_at_call 33; refine (times_any _ _ (by omega) (by omega) _).mono ?_; rintro e w1 ⟨rfl, hq1⟩)
    | (go_at_call 27; refine (mul_any _ _ _).mono ?_; rintro e w3 ⟨rfl, hq3⟩)
    | (go_at_call 22; refine (works_any _).mono ?_; rintro e w5 ⟨rfl, hq5⟩))
  go_ret
  exact ⟨rfl, by repeat (first | exact Q.refl _ | assumption | refine Q.alloc ?_ _ | refine Q.trans ?_ (by assumption))⟩
theorem satDivides_walk (a b : Int) (wa : (Lit.int .i64 a).wf = true) (wb : (Lit.int .i64 b).wf = true) (w : World) :
    Calls Try.prog 13 #[.int .i64 a, .int .i64 b] w fun e w' => e = .returned (.bool true) ∧ Q w w' := by
  have ha := bd64 wa
  have hb := bd64 wb
  by_cases h1 : b < 1
  · have d1 : Sat.divQ a b = 0 := if_pos h1
    have d2 : Sat.divR a b = 0 := if_pos h1
    have d3 : Sat.divE b = 2 := if_pos h1
    have d4 : Sat.ceilV a b = 0 := if_pos h1
    go_enter Try.func13, Try.ntmps13
    go_wp2_with (first
      | (go_at_call 29; refine (div_any _ _ ha hb _).mono ?_; rintro e w1 ⟨rfl, hq1⟩)
      | (go_at_call 31; refine (ceil_any _ _ ha hb _).mono ?_; rintro e w3 ⟨rfl, hq3⟩)
      | (go_at_call 22; refine (works_any _).mono ?_; rintro e w5 ⟨rfl, hq5⟩))
    go_ret
    exact ⟨rfl, by repeat (first | exact Q.refl _ | assumption | refine Q.alloc ?_ _ | refine Q.trans ?_ (by assumption))⟩
  · obtain ⟨q, hq⟩ : ∃ q, a / b = q := ⟨_, rfl⟩
    obtain ⟨r, hr⟩ : ∃ r, a % b = r := ⟨_, rfl⟩
    have hroom := Sat.ediv_room (a := a) (b := b) (by omega) ha.1 ha.2
    have hqb : -9223372036854775808 ≤ q ∧ q ≤ 9223372036854775807 := ⟨by omega, by omega⟩
    have e := Int.mul_ediv_add_emod a b
    have hr0 := Int.emod_nonneg a (show b ≠ 0 by omega)
    have hr1 := Int.emod_lt_of_pos a (show 0 < b by omega)
    rw [hq, hr] at e hroom
    rw [hr] at hr0 hr1
    have d1 : Sat.divQ a b = q := by unfold Sat.divQ; rw [if_neg h1, hq]
    have d2 : Sat.divR a b = r := by unfold Sat.divR; rw [if_neg h1, hr]
    have d3 : Sat.divE b = 0 := if_neg h1
    have d4 : Sat.ceilV a b = if 0 < r then q + 1 else q := by unfold Sat.ceilV; rw [if_neg h1, hq, hr]
    clear hq hr
    rw [Int.mul_comm] at e
    obtain ⟨t, ht⟩ : ∃ t, q * b = t := ⟨_, rfl⟩
    rw [ht] at e
    have ht' : Sat.timesV q b = if Sat.fits t = true then t else 0 := by unfold Sat.timesV; rw [ht]
    have ht'' : Sat.timesE q b = if Sat.fits t = true then 0 else 7 := by unfold Sat.timesE; rw [ht]
    clear ht
    by_cases hf : Sat.fits t = true
    · have htb := fits_t hf
      rw [if_pos hf] at ht' ht''
      have p1 : Sat.plusV t r = a := by unfold Sat.plusV; rw [e, if_pos (fits_of ha)]
      have p2 : Sat.plusE t r = 0 := by unfold Sat.plusE; rw [e, if_pos (fits_of ha)]
      clear hf e
      by_cases hz : 0 < r
      · rw [if_pos hz] at d4
        have hq1 := hroom.2.2 hz
        have z1 := beq_f (show r ≠ 0 by omega)
        have z2 : (q + 1 - 1 != q) = false := by rw [show q + 1 - 1 = q by omega]; simp
        clear hroom
        go_enter Try.func13, Try.ntmps13
        go_wp2_with (first
          | (go_at_call 29; refine (div_any _ _ ha hb _).mono ?_; rintro e w1 ⟨rfl, hq1⟩)
          | (go_at_call 31; refine (ceil_any _ _ ha hb _).mono ?_; rintro e w3 ⟨rfl, hq3⟩)
          | (go_at_call 33; refine (times_any _ _ (by omega) (by omega) _).mono ?_; rintro e w2 ⟨rfl, hq2⟩)
          | (go_at_call 14; refine (plus_any _ _ (by omega) (by omega) _).mono ?_; rintro e w4 ⟨rfl, rfl⟩)
          | (go_at_call 22; refine (works_any _).mono ?_; rintro e w5 ⟨rfl, hq5⟩))
        go_ret
        exact ⟨rfl, by repeat (first | exact Q.refl _ | assumption | refine Q.alloc ?_ _ | refine Q.trans ?_ (by assumption))⟩
      · rw [if_neg hz] at d4
        obtain rfl : r = 0 := by omega
        clear hroom
        go_enter Try.func13, Try.ntmps13
        go_wp2_with (first
          | (go_at_call 29; refine (div_any _ _ ha hb _).mono ?_; rintro e w1 ⟨rfl, hq1⟩)
          | (go_at_call 31; refine (ceil_any _ _ ha hb _).mono ?_; rintro e w3 ⟨rfl, hq3⟩)
          | (go_at_call 33; refine (times_any _ _ (by omega) (by omega) _).mono ?_; rintro e w2 ⟨rfl, hq2⟩)
          | (go_at_call 14; refine (plus_any _ _ (by omega) (by omega) _).mono ?_; rintro e w4 ⟨rfl, rfl⟩)
          | (go_at_call 22; refine (works_any _).mono ?_; rintro e w5 ⟨rfl, hq5⟩))
        go_ret
        exact ⟨rfl, by repeat (first | exact Q.refl _ | assumption | refine Q.alloc ?_ _ | refine Q.trans ?_ (by assumption))⟩
    · have htb := fits_f hf
      rw [if_neg hf] at ht' ht''
      have hlow : a < -9223372036854775808 + b := by omega
      have hne : 0 < r := by omega
      clear hf e
      by_cases hz : 0 < r
      · rw [if_pos hz] at d4
        have hq1 := hroom.2.2 hz
        have z1 := beq_f (show r ≠ 0 by omega)
        have z2 : (q + 1 - 1 != q) = false := by rw [show q + 1 - 1 = q by omega]; simp
        clear hroom
        go_enter Try.func13, Try.ntmps13
        go_wp2_with (first
          | (go_at_call 29; refine (div_any _ _ ha hb _).mono ?_; rintro e w1 ⟨rfl, hq1⟩)
          | (go_at_call 31; refine (ceil_any _ _ ha hb _).mono ?_; rintro e w3 ⟨rfl, hq3⟩)
          | (go_at_call 33; refine (times_any _ _ (by omega) (by omega) _).mono ?_; rintro e w2 ⟨rfl, hq2⟩)
          | (go_at_call 22; refine (works_any _).mono ?_; rintro e w5 ⟨rfl, hq5⟩))
        go_ret
        exact ⟨rfl, by repeat (first | exact Q.refl _ | assumption | refine Q.alloc ?_ _ | refine Q.trans ?_ (by assumption))⟩
      · omega
end Go.Proofs.Ytjakhgcmfpldgaa
