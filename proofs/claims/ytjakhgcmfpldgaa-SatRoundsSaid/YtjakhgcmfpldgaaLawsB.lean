/- The walks of the laws SatGrows and SatRounds: each returns true. -/
import Derived.Test.YtjakhgcmfpldgaaLawsA
import Derived.Test.YtjakhgcmfpldgaaBitsB
namespace Go.Proofs.Ytjakhgcmfpldgaa
open Go.RowKit
set_option linter.unusedVariables false
theorem bdu8 {a : Int} (h : (Lit.int .u8 a).wf = true) : 0 ≤ a ∧ a ≤ 255 := by
  have hmin : IntKind.u8.min = 0 := rfl
  have hmax : IntKind.u8.max = 255 := rfl
  simp only [Lit.wf, Bool.and_eq_true, decide_eq_true_eq] at h; omega
theorem pow_sum {a m n : Int} (hm : 0 ≤ m) (hn : 0 ≤ n) : Sat.pow a (m + n) = Sat.mul (Sat.pow a m) (Sat.pow a n) := by
  unfold Sat.pow
  rw [if_neg (by omega), if_neg (by omega), if_neg (by omega), Sat.mul_clips, ← Int.pow_add]
  congr 2; omega
theorem pow_zero (a : Int) : Sat.pow a 0 = 1 := by unfold Sat.pow; rw [if_neg (by omega)]; rw [show (0 : Int).toNat = 0 from rfl, Int.pow_zero]; rfl
theorem pow_one (a : Int) : Sat.pow a 1 = Sat.clip a := by unfold Sat.pow; rw [if_neg (by omega)]; rw [show (1 : Int).toNat = 1 from rfl, show a ^ 1 = a from Int.pow_succ a 0 |>.trans (by simp)]
theorem pow_neg {a n : Int} (h : n < 0) : Sat.pow a n = 0 := if_pos h
theorem satGrows_walk (a m n : Int) (wa : (Lit.int .i64 a).wf = true) (wm : (Lit.int .u8 m).wf = true) (wn : (Lit.int .u8 n).wf = true) (w : World) :
    Calls Try.prog 7 #[.int .i64 a, .int .u8 m, .int .u8 n] w fun e w' => e = .returned (.bool true) ∧ Q w w' := by
  have hm := bdu8 wm
  have hn := bdu8 wn
  have h1 := pow_sum (a := a) hm.1 hn.1
  have h2 := pow_zero a
  have h3 := pow_one a
  have h4 := pow_neg (a := a) (show -1 - n < 0 by omega)
  go_enter Try.func7, Try.ntmps7
  go_wp2_with (first
    | (go_at_call 23; refine (pow_all _ _ (by omega) _).mono ?_; rintro e w1 ⟨rfl, hq1⟩)
    | (go_at_call 27; refine (mul_any _ _ _).mono ?_; rintro e w2 ⟨rfl, hq2⟩)
    | (go_at_call 16; refine (clip_any _ _).mono ?_; rintro e w3 ⟨rfl, rfl⟩)
    | (go_at_call 22; refine (works_any _).mono ?_; rintro e w4 ⟨rfl, hq4⟩))
  go_ret
  exact ⟨rfl, by repeat (first | exact Q.refl _ | assumption | refine Q.alloc ?_ _ | refine Q.trans ?_ (by assumption))⟩
/-- the arguments of Pow in SatRounds: any exponent from 64 on -/
theorem rounds_core (a n K v : Int) (ha : -9223372036854775808 ≤ a ∧ a ≤ 9223372036854775807) (hn : -9223372036854775808 ≤ n ∧ n ≤ 9223372036854775807)
    (M : Int) (hM0 : 0 ≤ M ∧ M ≤ 9223372036854775807) (hM : (if n < -1 - n then -1 - n else n) = M) (hK : bits .or .i64 (M / 2) 64 = K) (hK1 : 64 ≤ K) (hK2 : K ≤ 9223372036854775807) (w : World) :
    Calls Try.prog 8 #[.int .i64 a, .int .i64 n] w fun e w' => e = .returned (.bool true) ∧ Q w w' := by
  have hx := i64_not hn.1 hn.2
  have hsg : IntKind.i64.signed = true := rfl
  have hg : Sat.pow a K = Sat.great a K.toNat := by
    unfold Sat.pow; rw [if_neg (by omega), Sat.pow_great a (by omega)]
  by_cases h0 : a = 0
  · have hv : Sat.pow a K = 0 := by rw [hg]; simp [Sat.great, h0]
    have h1 := beq_t h0
    have h2 : 0 ≤ a := by omega
    clear hg h0
    · go_enter Try.func8, Try.ntmps8
      go_wp2_with (first
        | (go_at_call 23; refine (pow_all _ _ (by omega) _).mono ?_; rintro e w1 ⟨rfl, hq1⟩)
        | (go_at_call 22; refine (works_any _).mono ?_; rintro e w4 ⟨rfl, hq4⟩))
      go_ret
      exact ⟨rfl, by repeat (first | exact Q.refl _ | assumption | refine Q.alloc ?_ _ | refine Q.trans ?_ (by assumption))⟩
  have h1 := beq_f h0
  by_cases h11 : a = 1
  · have hv : Sat.pow a K = 1 := by rw [hg]; simp [Sat.great, h11]
    have h2 := beq_t h11
    have h3 : 0 ≤ a := by omega
    clear hg h0 h11
    · go_enter Try.func8, Try.ntmps8
      go_wp2_with (first
        | (go_at_call 23; refine (pow_all _ _ (by omega) _).mono ?_; rintro e w1 ⟨rfl, hq1⟩)
        | (go_at_call 22; refine (works_any _).mono ?_; rintro e w4 ⟨rfl, hq4⟩))
      go_ret
      exact ⟨rfl, by repeat (first | exact Q.refl _ | assumption | refine Q.alloc ?_ _ | refine Q.trans ?_ (by assumption))⟩
  have h2 := beq_f h11
  by_cases hm : a = -1
  · have h3 := beq_t hm
    have h4 : a < 0 := by omega
    by_cases hodd : K % 2 = 1
    · have hv : Sat.pow a K = -1 := by rw [hg]; simp [Sat.great, hm]; omega
      have h5 := beq_t hodd
      have h6 : (K.tmod 2 == 1) = true := by rw [Int.tmod_eq_emod_of_nonneg (by omega)]; exact h5
      clear hg h0 h11 hm hodd
      · go_enter Try.func8, Try.ntmps8
        go_wp2_with (first
          | (go_at_call 23; refine (pow_all _ _ (by omega) _).mono ?_; rintro e w1 ⟨rfl, hq1⟩)
          | (go_at_call 22; refine (works_any _).mono ?_; rintro e w4 ⟨rfl, hq4⟩))
        go_ret
        exact ⟨rfl, by repeat (first | exact Q.refl _ | assumption | refine Q.alloc ?_ _ | refine Q.trans ?_ (by assumption))⟩
    · have hv : Sat.pow a K = 1 := by rw [hg]; simp [Sat.great, hm]; omega
      have h5 := beq_f hodd
      have h6 : (K.tmod 2 == 1) = false := by rw [Int.tmod_eq_emod_of_nonneg (by omega)]; exact h5
      clear hg h0 h11 hm hodd
      · go_enter Try.func8, Try.ntmps8
        go_wp2_with (first
          | (go_at_call 23; refine (pow_all _ _ (by omega) _).mono ?_; rintro e w1 ⟨rfl, hq1⟩)
          | (go_at_call 22; refine (works_any _).mono ?_; rintro e w4 ⟨rfl, hq4⟩))
        go_ret
        exact ⟨rfl, by repeat (first | exact Q.refl _ | assumption | refine Q.alloc ?_ _ | refine Q.trans ?_ (by assumption))⟩
  have h3 := beq_f hm
  by_cases h4 : a < 0
  · by_cases hodd : K % 2 = 1
    · have hv : Sat.pow a K = -4611686018427387904 := by rw [hg]; unfold Sat.great; simp only [h0, h11, hm, false_or, if_false]; rw [if_pos (by omega)]; rfl
      have h5 := beq_t hodd
      have h6 : (K.tmod 2 == 1) = true := by rw [Int.tmod_eq_emod_of_nonneg (by omega)]; exact h5
      clear hg h0 h11 hm hodd
      · go_enter Try.func8, Try.ntmps8
        go_wp2_with (first
          | (go_at_call 23; refine (pow_all _ _ (by omega) _).mono ?_; rintro e w1 ⟨rfl, hq1⟩)
          | (go_at_call 22; refine (works_any _).mono ?_; rintro e w4 ⟨rfl, hq4⟩))
        go_ret
        exact ⟨rfl, by repeat (first | exact Q.refl _ | assumption | refine Q.alloc ?_ _ | refine Q.trans ?_ (by assumption))⟩
    · have hv : Sat.pow a K = 4611686018427387904 := by rw [hg]; unfold Sat.great; simp only [h0, h11, hm, false_or, if_false]; rw [if_neg (by omega)]; rfl
      have h5 := beq_f hodd
      have h6 : (K.tmod 2 == 1) = false := by rw [Int.tmod_eq_emod_of_nonneg (by omega)]; exact h5
      clear hg h0 h11 hm hodd
      · go_enter Try.func8, Try.ntmps8
        go_wp2_with (first
          | (go_at_call 23; refine (pow_all _ _ (by omega) _).mono ?_; rintro e w1 ⟨rfl, hq1⟩)
          | (go_at_call 22; refine (works_any _).mono ?_; rintro e w4 ⟨rfl, hq4⟩))
        go_ret
        exact ⟨rfl, by repeat (first | exact Q.refl _ | assumption | refine Q.alloc ?_ _ | refine Q.trans ?_ (by assumption))⟩
  · have hv : Sat.pow a K = 4611686018427387904 := by rw [hg]; unfold Sat.great; simp only [h0, h11, hm, false_or, if_false]; rw [if_neg (by omega)]; rfl
    clear hg h0 h11 hm
    · go_enter Try.func8, Try.ntmps8
      go_wp2_with (first
        | (go_at_call 23; refine (pow_all _ _ (by omega) _).mono ?_; rintro e w1 ⟨rfl, hq1⟩)
        | (go_at_call 22; refine (works_any _).mono ?_; rintro e w4 ⟨rfl, hq4⟩))
      go_ret
      exact ⟨rfl, by repeat (first | exact Q.refl _ | assumption | refine Q.alloc ?_ _ | refine Q.trans ?_ (by assumption))⟩
theorem satRounds_walk (a n : Int) (wa : (Lit.int .i64 a).wf = true) (wn : (Lit.int .i64 n).wf = true) (w : World) :
    Calls Try.prog 8 #[.int .i64 a, .int .i64 n] w fun e w' => e = .returned (.bool true) ∧ Q w w' := by
  have ha := bd64 wa
  have hn := bd64 wn
  obtain ⟨M, hM⟩ : ∃ M : Int, (if n < -1 - n then -1 - n else n) = M := ⟨_, rfl⟩
  have hM0 : 0 ≤ M ∧ M ≤ 9223372036854775807 := by rw [← hM]; split <;> omega
  have h := i64_or64 (x := M / 2) (by omega) (by omega)
  exact rounds_core a n _ 0 ha hn M hM0 hM rfl h.1 h.2 w
end Go.Proofs.Ytjakhgcmfpldgaa
