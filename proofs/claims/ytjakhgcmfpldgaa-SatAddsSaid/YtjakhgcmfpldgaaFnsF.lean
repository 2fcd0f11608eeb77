/- The contracts of Div and Ceil. -/
import Derived.Test.YtjakhgcmfpldgaaFnsE
namespace Go.Proofs.Ytjakhgcmfpldgaa
open Go.RowKit
set_option linter.unusedVariables false
theorem ret_three {k l m : IntKind} {a b c d e f : Int} (h : a = d) (g : b = e) (i : c = f) : Ending.returned (.tuple #[.int k a, .int l b, .int m c]) = .returned (.tuple #[.int k d, .int l e, .int m f]) := by rw [h, g, i]
theorem div_any (a b : Int) (ha : -9223372036854775808 ≤ a ∧ a ≤ 9223372036854775807) (hb : -9223372036854775808 ≤ b ∧ b ≤ 9223372036854775807) (w : World) :
    Calls Try.prog 29 #[.int .i64 a, .int .i64 b] w fun e w' => e = .returned (.tuple #[.int .i64 (Sat.divQ a b), .int .i64 (Sat.divR a b), .int .i64 (Sat.divE b)]) ∧ Q w w' := by
  unfold Sat.divQ Sat.divR Sat.divE
  by_cases h1 : b < 1
  · rw [if_pos h1, if_pos h1, if_pos h1]
    go_enter Try.func29, Try.ntmps29
    go_wp2
    go_ret3
    exact ⟨rfl, Q.refl _⟩
  · rw [if_neg h1, if_neg h1, if_neg h1]
    have hm := Sat.tmod_bd (a := a) (b := b) (by omega)
    have hd := Sat.tdiv_bd a b
    have hd' : -9223372036854775808 ≤ a.tdiv b ∧ a.tdiv b ≤ 9223372036854775808 := by split at hd <;> omega
    have hmul := Int.mul_tdiv_add_tmod a b
    have hd'' : a.tdiv b ≤ 9223372036854775807 := by
      by_cases h : a < 0
      · have e : a.tdiv b = -((-a).tdiv b) := by rw [Int.neg_tdiv, Int.neg_neg]
        have := Int.tdiv_nonneg (a := -a) (b := b) (by omega) (by omega); omega
      · rw [if_neg h] at hd; omega
    clear hd
    by_cases hr : a.tmod b < 0
    · have he := Sat.tdiv_neg (by omega) hr
      have hlow : -9223372036854775808 ≤ a.tdiv b - 1 := by
        rw [← he.1]
        have h := Int.le_ediv_of_mul_le (a := a) (b := a) (c := b) (by omega) ?_
        · omega
        · have := Int.mul_le_mul_of_nonneg_left (show (1 : Int) ≤ b by omega) (show 0 ≤ -a by
            by_cases h : 0 ≤ a
            · have := Int.tmod_nonneg b h; omega
            · omega)
          rw [Int.neg_mul, Int.neg_mul] at this; omega
      rw [he.1, he.2]
      clear he hmul
      go_enter Try.func29, Try.ntmps29
      go_wp2
      go_quiet (fail)
      go_wp2
      go_ret3
      exact ⟨rfl, (Q.refl _).drewN _⟩
    · have he := Sat.tdiv_pos (by omega) (show 0 ≤ a.tmod b by omega)
      rw [he.1, he.2]
      clear he hmul
      go_enter Try.func29, Try.ntmps29
      go_wp2
      go_quiet (fail)
      go_wp2
      go_ret3
      exact ⟨rfl, (Q.refl _).drewN _⟩
theorem rdiv_any (a b : Int) (ha : -9223372036854775808 ≤ a ∧ a ≤ 9223372036854775807) (hb : -9223372036854775808 ≤ b ∧ b ≤ 9223372036854775807) (w : World) :
    Calls Try.prog 30 #[.int .i64 a, .int .i64 b] w fun e w' => e = .returned (.tuple #[.int .i64 (Sat.divQ a b), .int .i64 (Sat.divR a b), .int .i64 (Sat.divE b)]) ∧ Q w w' := by
  unfold Sat.divQ Sat.divR Sat.divE
  by_cases h1 : b < 1
  · rw [if_pos h1, if_pos h1, if_pos h1]
    go_enter Try.func30, Try.ntmps30
    go_wp2
    go_ret3
    exact ⟨rfl, Q.refl _⟩
  · rw [if_neg h1, if_neg h1, if_neg h1]
    have hm := Sat.tmod_bd (a := a) (b := b) (by omega)
    have hd := Sat.tdiv_bd a b
    have hd' : -9223372036854775808 ≤ a.tdiv b ∧ a.tdiv b ≤ 9223372036854775808 := by split at hd <;> omega
    have hmul := Int.mul_tdiv_add_tmod a b
    have hd'' : a.tdiv b ≤ 9223372036854775807 := by
      by_cases h : a < 0
      · have e : a.tdiv b = -((-a).tdiv b) := by rw [Int.neg_tdiv, Int.neg_neg]
        have := Int.tdiv_nonneg (a := -a) (b := b) (by omega) (by omega); omega
      · rw [if_neg h] at hd; omega
    clear hd
    by_cases hr : a.tmod b < 0
    · have he := Sat.tdiv_neg (by omega) hr
      have hlow : -9223372036854775808 ≤ a.tdiv b - 1 := by
        rw [← he.1]
        have h := Int.le_ediv_of_mul_le (a := a) (b := a) (c := b) (by omega) ?_
        · omega
        · have := Int.mul_le_mul_of_nonneg_left (show (1 : Int) ≤ b by omega) (show 0 ≤ -a by
            by_cases h : 0 ≤ a
            · have := Int.tmod_nonneg b h; omega
            · omega)
          rw [Int.neg_mul, Int.neg_mul] at this; omega
      rw [he.1, he.2]
      clear he hmul
      go_enter Try.func30, Try.ntmps30
      go_wp2
      go_quiet (fail)
      go_wp2
      go_ret3
      exact ⟨rfl, (Q.refl _).drewN _⟩
    · have he := Sat.tdiv_pos (by omega) (show 0 ≤ a.tmod b by omega)
      rw [he.1, he.2]
      clear he hmul
      go_enter Try.func30, Try.ntmps30
      go_wp2
      go_quiet (fail)
      go_wp2
      go_ret3
      exact ⟨rfl, (Q.refl _).drewN _⟩

theorem div_bad (a b : Int) (h : b < 1) (ha : -9223372036854775808 ≤ a ∧ a ≤ 9223372036854775807) (hb : -9223372036854775808 ≤ b ∧ b ≤ 9223372036854775807) (w : World) :
    Calls Try.prog 29 #[.int .i64 a, .int .i64 b] w fun e w' => e = .returned (.tuple #[.int .i64 0, .int .i64 0, .int .i64 2]) ∧ Q w w' := by
  have := div_any a b ha hb w
  rwa [show Sat.divQ a b = 0 from if_pos h, show Sat.divR a b = 0 from if_pos h, show Sat.divE b = 2 from if_pos h] at this
theorem div_good (a b : Int) (h : ¬ b < 1) (ha : -9223372036854775808 ≤ a ∧ a ≤ 9223372036854775807) (hb : -9223372036854775808 ≤ b ∧ b ≤ 9223372036854775807) (w : World) :
    Calls Try.prog 29 #[.int .i64 a, .int .i64 b] w fun e w' => e = .returned (.tuple #[.int .i64 (a / b), .int .i64 (a % b), .int .i64 0]) ∧ Q w w' := by
  have := div_any a b ha hb w
  rwa [show Sat.divQ a b = a / b from if_neg h, show Sat.divR a b = a % b from if_neg h, show Sat.divE b = 0 from if_neg h] at this
theorem ceil_any (a b : Int) (ha : -9223372036854775808 ≤ a ∧ a ≤ 9223372036854775807) (hb : -9223372036854775808 ≤ b ∧ b ≤ 9223372036854775807) (w : World) :
    Calls Try.prog 31 #[.int .i64 a, .int .i64 b] w fun e w' => e = .returned (.tuple #[.int .i64 (Sat.ceilV a b), .int .i64 (Sat.divE b)]) ∧ Q w w' := by
  unfold Sat.ceilV Sat.divE
  by_cases h1 : b < 1
  · rw [if_pos h1, if_pos h1]
    go_enter Try.func31, Try.ntmps31
    go_wp2_with (go_at_call 29; refine (div_bad _ _ (by omega) (by omega) (by omega) _).mono ?_; rintro e w1 ⟨rfl, hq1⟩)
    go_ret2
    exact ⟨rfl, hq1⟩
  · rw [if_neg h1, if_neg h1]
    have hq := Sat.ediv_room (a := a) (b := b) (by omega) ha.1 ha.2
    by_cases hr : 0 < a % b
    · rw [if_pos hr]
      have hq' := hq.2.2 hr
      have q1 := hq.1
      have q2 := hq.2.1
      clear hq
      go_enter Try.func31, Try.ntmps31
      go_wp2_with (go_at_call 29; refine (div_good _ _ (by omega) (by omega) (by omega) _).mono ?_; rintro e w1 ⟨rfl, hq1⟩)
      go_ret2
      exact ⟨rfl, hq1⟩
    · rw [if_neg hr]
      clear hq
      go_enter Try.func31, Try.ntmps31
      go_wp2_with (go_at_call 29; refine (div_good _ _ (by omega) (by omega) (by omega) _).mono ?_; rintro e w1 ⟨rfl, hq1⟩)
      go_ret2
      exact ⟨rfl, hq1⟩

theorem rdiv_bad (a b : Int) (h : b < 1) (ha : -9223372036854775808 ≤ a ∧ a ≤ 9223372036854775807) (hb : -9223372036854775808 ≤ b ∧ b ≤ 9223372036854775807) (w : World) :
    Calls Try.prog 30 #[.int .i64 a, .int .i64 b] w fun e w' => e = .returned (.tuple #[.int .i64 0, .int .i64 0, .int .i64 2]) ∧ Q w w' := by
  have := rdiv_any a b ha hb w
  rwa [show Sat.divQ a b = 0 from if_pos h, show Sat.divR a b = 0 from if_pos h, show Sat.divE b = 2 from if_pos h] at this
theorem rdiv_good (a b : Int) (h : ¬ b < 1) (ha : -9223372036854775808 ≤ a ∧ a ≤ 9223372036854775807) (hb : -9223372036854775808 ≤ b ∧ b ≤ 9223372036854775807) (w : World) :
    Calls Try.prog 30 #[.int .i64 a, .int .i64 b] w fun e w' => e = .returned (.tuple #[.int .i64 (a / b), .int .i64 (a % b), .int .i64 0]) ∧ Q w w' := by
  have := rdiv_any a b ha hb w
  rwa [show Sat.divQ a b = a / b from if_neg h, show Sat.divR a b = a % b from if_neg h, show Sat.divE b = 0 from if_neg h] at this
theorem rceil_any (a b : Int) (ha : -9223372036854775808 ≤ a ∧ a ≤ 9223372036854775807) (hb : -9223372036854775808 ≤ b ∧ b ≤ 9223372036854775807) (w : World) :
    Calls Try.prog 32 #[.int .i64 a, .int .i64 b] w fun e w' => e = .returned (.tuple #[.int .i64 (Sat.ceilV a b), .int .i64 (Sat.divE b)]) ∧ Q w w' := by
  unfold Sat.ceilV Sat.divE
  by_cases h1 : b < 1
  · rw [if_pos h1, if_pos h1]
    go_enter Try.func32, Try.ntmps32
    go_wp2_with (go_at_call 30; refine (rdiv_bad _ _ (by omega) (by omega) (by omega) _).mono ?_; rintro e w1 ⟨rfl, hq1⟩)
    go_ret2
    exact ⟨rfl, hq1⟩
  · rw [if_neg h1, if_neg h1]
    have hq := Sat.ediv_room (a := a) (b := b) (by omega) ha.1 ha.2
    by_cases hr : 0 < a % b
    · rw [if_pos hr]
      have hq' := hq.2.2 hr
      have q1 := hq.1
      have q2 := hq.2.1
      clear hq
      go_enter Try.func32, Try.ntmps32
      go_wp2_with (go_at_call 30; refine (rdiv_good _ _ (by omega) (by omega) (by omega) _).mono ?_; rintro e w1 ⟨rfl, hq1⟩)
      go_ret2
      exact ⟨rfl, hq1⟩
    · rw [if_neg hr]
      clear hq
      go_enter Try.func32, Try.ntmps32
      go_wp2_with (go_at_call 30; refine (rdiv_good _ _ (by omega) (by omega) (by omega) _).mono ?_; rintro e w1 ⟨rfl, hq1⟩)
      go_ret2
      exact ⟨rfl, hq1⟩
end Go.Proofs.Ytjakhgcmfpldgaa
