/- The contracts of sat.Plus, sat.Mul and what it calls. -/
import Derived.Test.YtjakhgcmfpldgaaFns
import Derived.RegionTactic
import Derived.Deep.QuietTactic
import Derived.BigQuiet
namespace Go.Proofs.Ytjakhgcmfpldgaa
open Go.RowKit
set_option linter.unusedVariables false
theorem fits_t {a : Int} (h : Sat.fits a = true) : -9223372036854775808 ≤ a ∧ a ≤ 9223372036854775807 := (Sat.fits_iff a).1 h
theorem fits_f {a : Int} (h : ¬ Sat.fits a = true) : a < -9223372036854775808 ∨ 9223372036854775807 < a := by rw [Sat.fits_iff] at h; omega
theorem plus_any (a b : Int) (ha : -9223372036854775808 ≤ a ∧ a ≤ 9223372036854775807) (hb : -9223372036854775808 ≤ b ∧ b ≤ 9223372036854775807) (w : World) :
    Calls Try.prog 14 #[.int .i64 a, .int .i64 b] w fun e w' => e = .returned (.tuple #[.int .i64 (Sat.plusV a b), .int .i64 (Sat.plusE a b)]) ∧ w = w' := by
  unfold Sat.plusV Sat.plusE
  by_cases hf : Sat.fits (a + b) = true
  · have hr := fits_t hf
    have ht : ¬ (bits .and .i64 (bits .xor .i64 a (a + b)) (bits .xor .i64 b (a + b)) < 0) := by
      rw [over_test ha.1 ha.2 hb.1 hb.2 hr.1 hr.2]; omega
    rw [if_pos hf, if_pos hf]
    clear hf
    go_enter Try.func14, Try.ntmps14
    go_wp2
    go_ret2
    exact ⟨rfl, rfl⟩
  · have hr := fits_f hf
    have hs : -9223372036854775808 ≤ wrap64 (a + b) ∧ wrap64 (a + b) ≤ 9223372036854775807 := by unfold wrap64; omega
    have ht : bits .and .i64 (bits .xor .i64 a (wrap64 (a + b))) (bits .xor .i64 b (wrap64 (a + b))) < 0 := by
      rw [over_test ha.1 ha.2 hb.1 hb.2 hs.1 hs.2]; unfold wrap64; omega
    rw [if_neg hf, if_neg hf]
    clear hf
    go_enter Try.func14, Try.ntmps14
    go_wp2
    go_ret2
    exact ⟨rfl, rfl⟩
theorem wrap_u64_eq (n : Int) : IntKind.u64.wrap n = n % 18446744073709551616 := by simp [IntKind.wrap, IntKind.bits, IntKind.signed]
theorem size_any (a : Int) (ha : -9223372036854775808 ≤ a ∧ a ≤ 9223372036854775807) (w : World) :
    Calls Try.prog 39 #[.int .i64 a] w fun e w' => e = .returned (.int .u64 (a.natAbs : Int)) ∧ w = w' := by
  by_cases h : a < 0
  · go_enter Try.func39, Try.ntmps39
    go_wp2
    go_ret
    exact ⟨ret_int (by rw [wrap_u64_eq, wrap_u64_eq]; omega), rfl⟩
  · go_enter Try.func39, Try.ntmps39
    go_wp2
    go_ret
    exact ⟨ret_int (by omega), rfl⟩
/-- a number with its sign -/
def sgn (m : Bool) (n : Int) : Int := if m then -n else n
theorem sgn_true (n : Int) : sgn true n = -n := rfl
theorem sgn_false (n : Int) : sgn false n = n := rfl
theorem signed_any (n : Int) (m : Bool) (hn : 0 ≤ n ∧ n ≤ 9223372036854775808) (hm : m = false → n ≤ 9223372036854775807) (w : World) :
    Calls Try.prog 37 #[.int .u64 n, .bool m] w fun e w' => e = .returned (.int .i64 (sgn m n)) ∧ w = w' := by
  cases m
  · have hm' := hm rfl
    clear hm
    rw [sgn_false]
    go_enter Try.func37, Try.ntmps37
    go_wp2
    go_ret
    exact ⟨ret_int rfl, rfl⟩
  · clear hm
    rw [sgn_true]
    go_enter Try.func37, Try.ntmps37
    go_wp2
    go_ret
    exact ⟨ret_int (by rw [wrap_u64_eq]; unfold wrap64; omega), rfl⟩
/-- the size of a product -/
def big (a b : Int) : Int := (a.natAbs : Int) * (b.natAbs : Int)
theorem big_nonneg (a b : Int) : 0 ≤ big a b := by unfold big; exact Int.mul_nonneg (by omega) (by omega)
theorem big_eq (a b : Int) : big a b = if (decide (a < 0)) == (decide (b < 0)) then a * b else -(a * b) := by
  unfold big
  by_cases h : a < 0 <;> by_cases k : b < 0
  · rw [show (a.natAbs : Int) = -a by omega, show (b.natAbs : Int) = -b by omega]; simp [h, k, Int.neg_mul_neg]
  · rw [show (a.natAbs : Int) = -a by omega, show (b.natAbs : Int) = b by omega]; simp [h, k, Int.neg_mul]
  · rw [show (a.natAbs : Int) = a by omega, show (b.natAbs : Int) = -b by omega]; simp [h, k, Int.mul_neg]
  · rw [show (a.natAbs : Int) = a by omega, show (b.natAbs : Int) = b by omega]; simp [h, k]
theorem product_any (a b : Int) (m : Bool) (hm : ((decide (a < 0)) == (decide (b < 0))) = !m) (ha : -9223372036854775808 ≤ a ∧ a ≤ 9223372036854775807) (hb : -9223372036854775808 ≤ b ∧ b ≤ 9223372036854775807) (w : World) :
    Calls Try.prog 36 #[.int .i64 a, .int .i64 b] w fun e w' => e = .returned (.tuple #[.agg #[.int .u64 (big a b / 18446744073709551616), .int .u64 (big a b % 18446744073709551616)], .bool m]) ∧ Q w w' := by
  unfold big
  by_cases h : a < 0 <;> by_cases k : b < 0 <;> simp [h, k] at hm <;> subst hm <;>
  · go_enter Try.func36, Try.ntmps36
    go_wp2_with (first | (go_at_call 39; refine (size_any _ (by assumption) _).mono ?_; rintro e w' ⟨rfl, rfl⟩) | (go_at_call 38; refine (Try.bits_Mul64 _ _ (by omega) (by omega) _).mono ?_; rintro e w' ⟨rfl, rfl⟩))
    exact bodyPost_ret (v := .tuple #[.agg #[.int .u64 ((a.natAbs : Int) * (b.natAbs : Int) / 18446744073709551616), .int .u64 ((a.natAbs : Int) * (b.natAbs : Int) % 18446744073709551616)], .bool _]) (by simp [results, Try.results36, go_sem] <;> omega) rfl ⟨rfl, (Q.refl _).alloc _⟩
theorem mul_sgn (a b : Int) (m : Bool) (hm : ((decide (Sat.clip a < 0)) == (decide (Sat.clip b < 0))) = !m) : Sat.mul a b = sgn m (Sat.clip (big (Sat.clip a) (Sat.clip b))) := by
  unfold Sat.mul
  have := big_eq (Sat.clip a) (Sat.clip b)
  rw [hm] at this
  cases m
  · rw [sgn_false, this]; rfl
  · rw [sgn_true, this, ← Sat.clip_neg]; simp
set_option maxRecDepth 100000 in
theorem mul_any (a b : Int) (w : World) : Calls Try.prog 27 #[.int .i64 a, .int .i64 b] w fun e w' => e = .returned (.int .i64 (Sat.mul a b)) ∧ Q w w' := by
  have ha := Sat.clip_num a
  have hb := Sat.clip_num b
  have hg := big_nonneg (Sat.clip a) (Sat.clip b)
  obtain ⟨m, hm⟩ : ∃ m : Bool, ((decide (Sat.clip a < 0)) == (decide (Sat.clip b < 0))) = !m := ⟨!_, (Bool.not_not _).symm⟩
  rw [mul_sgn a b m hm]
  have Hm := Lib.hid hm; clear hm
  rcases Sat.clip_three (big (Sat.clip a) (Sat.clip b)) with ⟨h, e⟩ | ⟨h, e⟩ | ⟨h, h', e⟩
  · rw [e]; clear e
    by_cases h2 : 0 < big (Sat.clip a) (Sat.clip b) / 18446744073709551616
    case' neg => have h3 : 4611686018427387904 < big (Sat.clip a) (Sat.clip b) % 18446744073709551616 := by omega
    all_goals
      go_enter Try.func27, Try.ntmps27
      go_wp2_with (first | (go_at_call 16; refine (clip_any _ _).mono ?_; rintro e w' ⟨rfl, rfl⟩) | (go_at_call 36; refine (product_any _ _ _ Hm.out (by omega) (by omega) _).mono ?_; rintro e w1 ⟨rfl, hq1⟩) | (go_at_call 37; refine (signed_any _ _ (by omega) (by omega) _).mono ?_; rintro e w' ⟨rfl, rfl⟩))
      go_ret
      exact ⟨ret_int rfl, hq1.alloc _⟩
  · omega
  · rw [e]; clear e
    have hlo : big (Sat.clip a) (Sat.clip b) % 18446744073709551616 = big (Sat.clip a) (Sat.clip b) := by omega
    have Hlo := Lib.hid hlo; clear hlo
    go_enter Try.func27, Try.ntmps27
    go_wp2_with (first | (go_at_call 16; refine (clip_any _ _).mono ?_; rintro e w' ⟨rfl, rfl⟩) | (go_at_call 36; refine (product_any _ _ _ Hm.out (by omega) (by omega) _).mono ?_; rintro e w1 ⟨rfl, hq1⟩) | (go_at_call 37; refine (signed_any _ _ (by omega) (by omega) _).mono ?_; rintro e w' ⟨rfl, rfl⟩))
    go_ret
    exact ⟨ret_int (by rw [Hlo.out]), hq1.alloc _⟩
end Go.Proofs.Ytjakhgcmfpldgaa
