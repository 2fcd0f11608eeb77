/- The examples of the chapter hold: the contract of works. -/
import Derived.Test.YtjakhgcmfpldgaaFnsI
namespace Go.Proofs.Ytjakhgcmfpldgaa
open Go.RowKit
set_option linter.unusedVariables false
theorem k_div (w : World) : Calls Try.prog 29 #[.int .i64 (-7), .int .i64 3] w fun e w' => e = .returned (.tuple #[.int .i64 (-3), .int .i64 2, .int .i64 0]) ∧ Q w w' := div_any (-7) 3 (by omega) (by omega) w
theorem k_plus (w : World) : Calls Try.prog 14 #[.int .i64 9223372036854775807, .int .i64 1] w fun e w' => e = .returned (.tuple #[.int .i64 0, .int .i64 7]) ∧ w = w' := plus_any 9223372036854775807 1 (by omega) (by omega) w
theorem k_add (w : World) : Calls Try.prog 18 #[.int .i64 4611686018427387904, .int .i64 1] w fun e w' => e = .returned (.int .i64 4611686018427387904) ∧ w = w' := add_any 4611686018427387904 1 w
theorem k_sub (w : World) : Calls Try.prog 20 #[.int .i64 0, .int .i64 (-9223372036854775808)] w fun e w' => e = .returned (.int .i64 4611686018427387904) ∧ w = w' := sub_any 0 (-9223372036854775808) w
theorem k_mul (w : World) : Calls Try.prog 27 #[.int .i64 2147483648, .int .i64 (-4294967296)] w fun e w' => e = .returned (.int .i64 (-4611686018427387904)) ∧ Q w w' := mul_any 2147483648 (-4294967296) w
theorem k_pow1 (w : World) : Calls Try.prog 23 #[.int .i64 2, .int .i64 10] w fun e w' => e = .returned (.int .i64 1024) ∧ Q w w' := pow_all 2 10 (by omega) w
theorem k_pow2 (w : World) : Calls Try.prog 23 #[.int .i64 (-2), .int .i64 63] w fun e w' => e = .returned (.int .i64 (-4611686018427387904)) ∧ Q w w' := pow_all (-2) 63 (by omega) w
theorem k_sum (b : Nat) (w : World) (h0 : w.cell? ⟨b, 0, none⟩ = some (.int .i64 4611686018427387904)) (h1 : w.cell? ⟨b, 1, none⟩ = some (.int .i64 5)) (h2 : w.cell? ⟨b, 2, none⟩ = some (.int .i64 (-7))) :
    Calls Try.prog 25 #[.slice (some ⟨b, 0, none⟩) 3 3] w fun e w' => e = .returned (.int .i64 4611686018427387897) ∧ w = w' := by
  have e : Sat.sum [4611686018427387904, 5, -7] = 4611686018427387897 := by decide
  have h := sum_any b 0 3 [4611686018427387904, 5, -7] w (by decide) (by
    intro j hj
    match j, hj with
    | 0, _ => simpa using h0
    | 1, _ => simpa using h1
    | 2, _ => simpa using h2)
  rw [e] at h
  exact h
theorem works_any (w : World) : Calls Try.prog 22 #[] w fun e w' => e = .returned (.bool true) ∧ Q w w' := by
  go_enter Try.func22, Try.ntmps22
  go_wp2_with (first
    | (go_at_call 29; refine (k_div _).mono ?_; rintro e w1 ⟨rfl, hq1⟩)
    | (go_at_call 14; refine (k_plus _).mono ?_; rintro e w2 ⟨rfl, rfl⟩)
    | (go_at_call 18; refine (k_add _).mono ?_; rintro e w3 ⟨rfl, rfl⟩)
    | (go_at_call 20; refine (k_sub _).mono ?_; rintro e w4 ⟨rfl, rfl⟩)
    | (go_at_call 27; refine (k_mul _).mono ?_; rintro e w5 ⟨rfl, hq5⟩)
    | (go_at_call 25; refine (k_sum _ _ (by simp) (by simp) (by simp)).mono ?_; rintro e w6 ⟨rfl, rfl⟩)
    | (go_at_call 23; (with_reducible refine (k_pow1 _).mono ?_); rintro e w7 ⟨rfl, hq7⟩)
    | (go_at_call 23; (with_reducible refine (k_pow2 _).mono ?_); rintro e w8 ⟨rfl, hq8⟩))
  go_ret
  exact ⟨rfl, by repeat (first | exact Q.refl _ | assumption | refine Q.alloc ?_ _ | refine Q.trans ?_ (by assumption))⟩
end Go.Proofs.Ytjakhgcmfpldgaa
