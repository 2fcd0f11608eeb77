/- The contracts of the document's Plus and Mul. -/
import Derived.Test.YtjakhgcmfpldgaaFnsB
namespace Go.Proofs.Ytjakhgcmfpldgaa
open Go.RowKit
set_option linter.unusedVariables false
theorem rplus_any (a b : Int) (ha : -9223372036854775808 ≤ a ∧ a ≤ 9223372036854775807) (hb : -9223372036854775808 ≤ b ∧ b ≤ 9223372036854775807) (w : World) :
    Calls Try.prog 15 #[.int .i64 a, .int .i64 b] w fun e w' => e = .returned (.tuple #[.int .i64 (Sat.plusV a b), .int .i64 (Sat.plusE a b)]) ∧ w = w' := by
  unfold Sat.plusV Sat.plusE
  by_cases hf : Sat.fits (a + b) = true
  · have hr := fits_t hf
    rw [if_pos hf, if_pos hf]
    clear hf
    by_cases h1 : 0 < b <;> by_cases h2 : b < 0 <;> first | (exfalso; omega) |
    · go_enter Try.func15, Try.ntmps15
      go_wp2
      go_ret2
      exact ⟨rfl, rfl⟩
  · have hr := fits_f hf
    rw [if_neg hf, if_neg hf]
    clear hf
    by_cases h1 : 0 < b <;> by_cases h2 : b < 0 <;> first | (exfalso; omega) |
    · go_enter Try.func15, Try.ntmps15
      go_wp2
      go_ret2
      exact ⟨rfl, rfl⟩
theorem beq_t {a b : Int} (h : a = b) : (a == b) = true := beq_iff_eq.2 h
theorem beq_f {a b : Int} (h : a ≠ b) : (a == b) = false := beq_eq_false_iff_ne.2 h
theorem rmul_any (a b : Int) (w : World) : Calls Try.prog 35 #[.int .i64 a, .int .i64 b] w fun e w' => e = .returned (.int .i64 (Sat.mul a b)) ∧ Q w w' := by
  have ha := Sat.clip_num a
  have hb := Sat.clip_num b
  by_cases h0 : Sat.clip a = 0
  · have e : Sat.mul a b = 0 := by unfold Sat.mul; rw [h0]; simp; rfl
    rw [e]; clear e
    have h1 := beq_t h0
    clear h0
    go_enter Try.func35, Try.ntmps35
    go_wp2_with (go_at_call 17; refine (rclip_any _ _).mono ?_; rintro e w' ⟨rfl, rfl⟩)
    go_ret
    exact ⟨rfl, Q.refl _⟩
  have h1 := beq_f h0
  by_cases h0' : Sat.clip b = 0
  · have e : Sat.mul a b = 0 := by unfold Sat.mul; rw [h0']; simp; rfl
    rw [e]; clear e
    have h2 := beq_t h0'
    clear h0 h0'
    go_enter Try.func35, Try.ntmps35
    go_wp2_with (go_at_call 17; refine (rclip_any _ _).mono ?_; rintro e w' ⟨rfl, rfl⟩)
    go_ret
    exact ⟨rfl, Q.refl _⟩
  have h2 := beq_f h0'
  have e := mul_sgn a b (!((decide (Sat.clip a < 0)) == (decide (Sat.clip b < 0)))) (Bool.not_not _).symm
  unfold big at e
  rw [e]; clear e
  by_cases h3 : Sat.clip a < 0 <;> by_cases h4 : Sat.clip b < 0
  all_goals
    simp only [h3, h4, decide_true, decide_false]
    obtain ⟨X, hX⟩ : ∃ X : Int, X = ((Sat.clip a).natAbs : Int) := ⟨_, rfl⟩
    obtain ⟨Y, hY⟩ : ∃ Y : Int, Y = ((Sat.clip b).natAbs : Int) := ⟨_, rfl⟩
    rw [← hX, ← hY]
    have hx1 : 1 ≤ X := by omega
    have hy1 : 1 ≤ Y := by omega
    have h7 : decide (X < 0) = false := decide_eq_false (by omega)
    have h8 : decide (Y < 0) = false := decide_eq_false (by omega)
    have h5 := beq_f (show X ≠ 0 by omega)
    have h6 := beq_f (show Y ≠ 0 by omega)
    have hdiv : X ≤ 4611686018427387904 / Y ↔ X * Y ≤ 4611686018427387904 := Int.le_ediv_iff_mul_le (by omega)
    have hnn : 0 ≤ X * Y := Int.mul_nonneg (by omega) (by omega)
    have hfin : (X * Y ≤ 4611686018427387904 ∧ X ≤ 4611686018427387904 / Y ∧ Sat.clip (X * Y) = X * Y) ∨ (4611686018427387904 < X * Y ∧ ¬ X ≤ 4611686018427387904 / Y ∧ Sat.clip (X * Y) = 4611686018427387904) := by
      by_cases h : X * Y ≤ 4611686018427387904
      · exact .inl ⟨h, hdiv.2 h, Sat.clip_mid (by omega) (by omega)⟩
      · exact .inr ⟨by omega, fun h' => h (hdiv.1 h'), Sat.clip_hi (by omega)⟩
    have hX' : (if Sat.clip a < 0 then -Sat.clip a else Sat.clip a) = X := by split <;> omega
    have hY' : (if Sat.clip b < 0 then -Sat.clip b else Sat.clip b) = Y := by split <;> omega
    simp only [h3, h4, if_true, if_false] at hX' hY'
    clear hdiv hX hY h0 h0'
    rcases hfin with ⟨k1, k2, k3⟩ | ⟨k1, k2, k3⟩
    all_goals
      rw [k3]; clear k3
      go_enter Try.func35, Try.ntmps35
      go_wp2_with (go_at_call 17; refine (rclip_any _ _).mono ?_; rintro e w' ⟨rfl, rfl⟩)
      go_ret
      exact ⟨rfl, Q.refl _⟩
end Go.Proofs.Ytjakhgcmfpldgaa
