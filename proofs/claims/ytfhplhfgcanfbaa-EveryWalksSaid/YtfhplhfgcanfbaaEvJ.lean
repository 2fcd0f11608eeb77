/- The contracts of Rem64, and of every's product, rest and inverse. -/
import Derived.Test.YtfhplhfgcanfbaaEvI
import Derived.Test.YtfhplhfgcanfbaaMeetp
namespace Go.Proofs.Ytfhplhfgcanfbaa
open Go.RowKit
set_option linter.unusedVariables false
theorem len_of (y : Nat) (h1 : 2 ≤ y) (h2 : y ≤ 68719476736) : ∃ s : Nat, 27 ≤ s ∧ s ≤ 62 ∧ 64 - (Lib.bitLen y : Int) = s ∧ 9223372036854775808 ≤ y * 2 ^ s ∧ y * 2 ^ s < 18446744073709551616 := by
  have k1 := Nat.log2_self_le (show y ≠ 0 by omega)
  have k2 := Nat.lt_log2_self (n := y)
  generalize y.log2 = k at *
  have hk : k ≤ 36 := by
    by_cases hc : k ≤ 36
    · exact hc
    · have : 2 ^ 37 ≤ 2 ^ k := Nat.pow_le_pow_right (by decide) (by omega)
      omega
  have hk1 : 1 ≤ k := by
    by_cases hc : 1 ≤ k
    · exact hc
    · have : k = 0 := by omega
      subst this; omega
  have e := Lib.bitLen_shift k y k1 (by omega)
  have e2 : y / 2 ^ k = 1 := by
    have hp : 0 < 2 ^ k := Nat.two_pow_pos k
    rw [Nat.pow_succ] at k2
    have h3 : 1 ≤ y / 2 ^ k := (Nat.le_div_iff_mul_le hp).2 (by omega)
    have h4 : y / 2 ^ k < 2 := (Nat.div_lt_iff_lt_mul hp).2 (by omega)
    omega
  rw [e2, show Lib.bitLen 1 = 1 from rfl] at e
  have p1 : 2 ^ k * 2 ^ (63 - k) = 2 ^ 63 := by rw [← Nat.pow_add, show k + (63 - k) = 63 by omega]
  have p2 : 2 ^ (k + 1) * 2 ^ (63 - k) = 2 ^ 64 := by rw [← Nat.pow_add, show k + 1 + (63 - k) = 64 by omega]
  refine ⟨63 - k, by omega, by omega, by omega, ?_, ?_⟩
  · have := Nat.mul_le_mul_right (2 ^ (63 - k)) k1
    rw [p1] at this; omega
  · have := Nat.mul_lt_mul_of_pos_right k2 (Nat.two_pow_pos (63 - k))
    rw [p2] at this; omega
theorem div_any (hi lo y : Int) (hh : 0 ≤ hi ∧ hi < y) (hl : 0 ≤ lo ∧ lo ≤ 18446744073709551615) (hy : y ≤ 68719476736) (w : World) :
    Calls Try.prog 49 #[.int .u64 hi, .int .u64 lo, .int .u64 y] w (RestIs ((hi * 18446744073709551616 + lo) % y) w) := by
  by_cases h0 : hi = 0
  · subst h0
    rw [show (0 : Int) * 18446744073709551616 + lo = lo by omega]
    exact div_zero lo y hl (by omega) w
  · obtain ⟨s, s1, s2, s3, s4, s5⟩ := len_of y.toNat (by omega) (by omega)
    have e : ((y.toNat * 2 ^ s : Nat) : Int) = y * 2 ^ s := by
      rw [Int.natCast_mul, Int.natCast_pow, Int.toNat_of_nonneg (by omega)]; rfl
    exact div_some hi lo y s (by omega) hl hy s3 s1 s2 (by omega) w
theorem rem_any (hi lo y : Int) (hh : 0 ≤ hi ∧ hi ≤ 18446744073709551615) (hl : 0 ≤ lo ∧ lo ≤ 18446744073709551615) (hy : 1 ≤ y ∧ y ≤ 68719476736) (w : World) :
    Calls Try.prog 48 #[.int .u64 hi, .int .u64 lo, .int .u64 y] w fun e w' => e = .returned (.int .u64 ((hi * 18446744073709551616 + lo) % y)) ∧ Q w w' := by
  have e : ((hi % y) * 18446744073709551616 + lo) % y = (hi * 18446744073709551616 + lo) % y := by
    rw [Int.add_emod, Int.mul_emod, Int.emod_emod, ← Int.mul_emod, ← Int.add_emod]
  have b0 := Int.emod_nonneg hi (show y ≠ 0 by omega)
  have b1 := Int.emod_lt_of_pos hi (show 0 < y by omega)
  have k1 := fun w2 => div_any (hi % y) lo y ⟨b0, b1⟩ hl hy.2 w2
  rw [e] at k1
  clear e
  obtain ⟨H, hH⟩ : ∃ H, hi % y = H := ⟨_, rfl⟩
  obtain ⟨R, hR⟩ : ∃ R, (hi * 18446744073709551616 + lo) % y = R := ⟨_, rfl⟩
  rw [hH, hR] at k1
  rw [hR]
  clear hR
  rw [hH] at b0 b1
  go_enter Try.func48, Try.ntmps48
  go_wp2_with (go_at_call 49; refine (k1 _).mono ?_; rintro e w1 ⟨⟨q, rfl⟩, hq1⟩)
  go_ret
  exact ⟨rfl, hq1⟩
theorem prod_any (a b m : Int) (ha : 0 ≤ a ∧ a < m) (hb : 0 ≤ b ∧ b < m) (hm : m ≤ 68719476736) (w : World) :
    Calls Try.prog 42 #[.int .i64 a, .int .i64 b, .int .i64 m] w fun e w' => e = .returned (.int .i64 (a * b % m)) ∧ Q w w' := by
  obtain ⟨x, rfl⟩ := Int.eq_ofNat_of_zero_le ha.1
  obtain ⟨y, rfl⟩ := Int.eq_ofNat_of_zero_le hb.1
  have hxy : x * y ≤ 68719476736 * 68719476736 := Nat.mul_le_mul (by omega) (by omega)
  have k1 := fun w2 => Try.bits_Mul64 x y (by omega) (by omega) w2
  have k2 := fun w2 => rem_any ((x * y / 18446744073709551616 : Nat) : Int) ((x * y % 18446744073709551616 : Nat) : Int) m (by omega) (by omega) (by omega) w2
  rw [show ((x * y / 18446744073709551616 : Nat) : Int) * 18446744073709551616 + ((x * y % 18446744073709551616 : Nat) : Int) = (x : Int) * (y : Int) by rw [← Int.natCast_mul]; omega] at k2
  have r0 := Int.emod_nonneg ((x : Int) * (y : Int)) (show m ≠ 0 by omega)
  have r1 := Int.emod_lt_of_pos ((x : Int) * (y : Int)) (show 0 < m by omega)
  obtain ⟨R, hR⟩ : ∃ R, (x : Int) * (y : Int) % m = R := ⟨_, rfl⟩
  obtain ⟨H, hH⟩ : ∃ H : Int, ((x * y / 18446744073709551616 : Nat) : Int) = H := ⟨_, rfl⟩
  obtain ⟨L, hL⟩ : ∃ L : Int, ((x * y % 18446744073709551616 : Nat) : Int) = L := ⟨_, rfl⟩
  rw [hR] at k2 r0 r1 ⊢
  rw [hH, hL] at k1 k2
  clear hR hH hL hxy
  have e1 := wraps_u64 x (by omega) (by omega)
  have e2 := wraps_u64 y (by omega) (by omega)
  have e3 := wraps_u64 m (by omega) (by omega)
  go_enter Try.func42, Try.ntmps42
  go_wp2_with (first
    | (go_at_call 47; refine (k1 _).mono ?_; rintro e w1 ⟨rfl, rfl⟩)
    | (go_at_call 48; refine (k2 _).mono ?_; rintro e w2 ⟨rfl, hq2⟩))
  go_ret
  exact ⟨rfl, hq2⟩
theorem rest_any (a m : Int) (ha : -9223372036854775808 ≤ a ∧ a ≤ 9223372036854775807) (hm : 1 ≤ m ∧ m ≤ 68719476736) (w : World) :
    Calls Try.prog 40 #[.int .i64 a, .int .i64 m] w fun e w' => e = .returned (.int .i64 (a % m)) ∧ w = w' := by
  have t0 := Int.tmod_eq_emod (a := a) (b := m)
  have r0 := Int.emod_nonneg a (show m ≠ 0 by omega)
  have r1 := Int.emod_lt_of_pos a (show 0 < m by omega)
  obtain ⟨T, hT⟩ : ∃ T, a.tmod m = T := ⟨_, rfl⟩
  have hTb : T = a % m ∨ T = a % m - m := by
    rw [hT] at t0
    split at t0
    · exact Or.inl (by omega)
    · exact Or.inr (by omega)
  have hfin : (T + m) % m = a % m := by
    rcases hTb with h | h
    · rw [h, Int.add_emod_right, Int.emod_emod]
    · rw [h, show a % m - m + m = a % m by omega, Int.emod_emod]
  obtain ⟨R, hR⟩ : ∃ R, a % m = R := ⟨_, rfl⟩
  rw [hR] at r0 r1 hTb hfin ⊢
  clear t0 hR
  go_enter Try.func40, Try.ntmps40
  go_wp2
  go_ret
  exact ⟨ret_int hfin, rfl⟩
theorem inverse_any (A M : Int) (hA : 1 ≤ A ∧ A ≤ 68719476736) (hM : 1 ≤ M ∧ M ≤ 68719476736) (w : World) :
    Calls Try.prog 39 #[.int .i64 A, .int .i64 M] w fun e w' => (∃ g x : Int, e = .returned (.tuple #[.int .i64 g, .int .i64 x]) ∧ Ev.Eu A M g x ∧ g ≤ 68719476736 ∧ -68719476736 ≤ x ∧ x ≤ 68719476736) ∧ w = w' := by
  have h0 := Ev.inv_start hA.1 hM.1
  go_enter Try.func39, Try.ntmps39
  go_wp2
  go_loop [0, 5, 6, 7] (fun a x y b => ∃ a' x' y' b' : Int, Ev.Inv A M a' b' x' y' ∧ a = .int .i64 a' ∧ x = .int .i64 x' ∧ y = .int .i64 y' ∧ b = .int .i64 b') (fun _ _ _ b => (intOf b).toNat)
  case atStart => exact ⟨A, 1, 0, M, h0, rfl, rfl, rfl, rfl⟩
  case round =>
    obtain ⟨a, x, y, b, hi, rfl, rfl, rfl, rfl⟩ := hrel
    clear h0
    have bd := Ev.inv_bd hi
    have b1 := hi.1
    have b2 := hi.2.1
    have b3 := hi.2.2.1
    have b4 := hi.2.2.2.1
    by_cases hb : b = 0
    · subst hb
      have he := Ev.inv_end hi
      clear hi
      go_wp2
      go_ret2
      exact ⟨⟨_, _, rfl, he, by omega, by omega, by omega⟩, rfl⟩
    · have st := Ev.inv_step hi (by omega)
      have hbne : (b != 0) = true := bne_t hb
      obtain ⟨q, hq⟩ : ∃ q, a / b = q := ⟨_, rfl⟩
      rw [hq] at st
      obtain ⟨p1, hp1⟩ : ∃ p, q * b = p := ⟨_, rfl⟩
      obtain ⟨p2, hp2⟩ : ∃ p, q * y = p := ⟨_, rfl⟩
      rw [hp1, hp2] at st
      obtain ⟨hin, s1, s2, s3, s4, s5⟩ := st
      have q0 : 0 ≤ q := by rw [← hq]; exact Int.ediv_nonneg b1 b3
      have q1 : q ≤ a := by rw [← hq]; exact Int.ediv_le_self _ b1
      clear hi
      go_wp2
      go_round
      case rel => exact ⟨b, y, x - p2, a - p1, hin, rfl, rfl, rfl, rfl⟩
      case measure => simp [intOf]; omega
end Go.Proofs.Ytfhplhfgcanfbaa
