/- The contracts of math/bits' Div64 and Rem64 where the divisor is small. -/
import Derived.Test.YtfhplhfgcanfbaaEvB
import Derived.Test.YtfhplhfgcanfbaaShelf
import Derived.Test.YtfhplhfgcanfbaaDiv
namespace Go.Proofs.Ytfhplhfgcanfbaa
open Go.RowKit
set_option linter.unusedVariables false
/-- the rest is r, whatever the quotient -/
def RestIs (r : Int) (w : World) (e : Ending) (w' : World) : Prop := (∃ q : Int, e = .returned (.tuple #[.int .u64 q, .int .u64 r])) ∧ Q w w'
theorem div_zero (lo y : Int) (hl : 0 ≤ lo ∧ lo ≤ 18446744073709551615) (hy : 1 ≤ y ∧ y ≤ 68719476736) (w : World) :
    Calls Try.prog 49 #[.int .u64 0, .int .u64 lo, .int .u64 y] w (RestIs (lo % y) w) := by
  go_enter Try.func49, Try.ntmps49
  go_wp2_with fail
  go_quiet (fail)
  go_wp2_with fail
  go_ret2
  exact ⟨⟨_, rfl⟩, (Q.refl _).drewN _⟩
theorem wraps_u64 (n : Int) (h0 : 0 ≤ n) (h1 : n < 2 ^ 64) : IntKind.u64.wrap n = n := by rw [IntKind.wrap_u64]; omega
theorem u64_low (a : Int) (h : 0 ≤ a ∧ a ≤ 18446744073709551615) : bits .and .u64 a 4294967295 = a % 4294967296 := by
  obtain ⟨n, rfl⟩ := Int.eq_ofNat_of_zero_le h.1
  have e := (bits_nat .u64 64 (by decide) wraps_u64 n 4294967295 (by omega) (by decide)).1
  have e2 : (4294967295 : Nat) = 2 ^ 32 - 1 := by decide
  have e3 : n &&& 4294967295 = n % 4294967296 := by rw [e2, Nat.and_two_pow_sub_one_eq_mod]
  rw [e3] at e
  exact e.trans (by omega)
theorem u64_or (h l : Int) (s : Nat) (hh : 0 ≤ h) (hb : h * 2 ^ s ≤ 18446744073709551615) (hl : 0 ≤ l) (hl2 : l < 2 ^ s) (hs : s ≤ 63) : bits .or .u64 (h * 2 ^ s) l = h * 2 ^ s + l := by
  obtain ⟨n, rfl⟩ := Int.eq_ofNat_of_zero_le hh
  obtain ⟨m, rfl⟩ := Int.eq_ofNat_of_zero_le hl
  have hm : m < 2 ^ s := by exact_mod_cast hl2
  have hn : ((n * 2 ^ s : Nat) : Int) ≤ 18446744073709551615 := by rw [Int.natCast_mul, Int.natCast_pow]; exact hb
  have hp : 2 ^ s ≤ 2 ^ 63 := Nat.pow_le_pow_right (by decide) hs
  have e := (bits_nat .u64 64 (by decide) wraps_u64 (n * 2 ^ s) m (by omega) (by omega)).2
  have e2 : ((n : Int) * 2 ^ s) = ((n * 2 ^ s : Nat) : Int) := by rw [Int.natCast_mul, Int.natCast_pow]; rfl
  rw [e2, e, Nat.mul_comm n, ← Nat.two_pow_add_eq_or_of_lt hm]
  exact Int.natCast_add _ _
theorem wrap_rest_u (a b c d R : Int) (h : a * 4294967296 + b - c * d = R) (h0 : 0 ≤ R) (h1 : R < 18446744073709551616) : IntKind.u64.wrap (IntKind.u64.wrap (IntKind.u64.wrap (a * 4294967296) + b) - IntKind.u64.wrap (c * d)) = R := by
  simp only [IntKind.wrap_u64]; exact Dv.wrap_rest a b c d R _ h h0 h1
set_option maxRecDepth 20000 in
set_option maxHeartbeats 4000000 in
theorem div_some (hi lo y : Int) (s : Nat) (hh : 1 ≤ hi ∧ hi < y) (hl : 0 ≤ lo ∧ lo ≤ 18446744073709551615) (hy : y ≤ 68719476736) (hs : 64 - (Lib.bitLen y.toNat : Int) = s) (hs1 : 27 ≤ s) (hs2 : s ≤ 62)
    (hY : 9223372036854775808 ≤ y * 2 ^ s ∧ y * 2 ^ s ≤ 18446744073709551615)
    (w : World) : Calls Try.prog 49 #[.int .u64 hi, .int .u64 lo, .int .u64 y] w (RestIs ((hi * 18446744073709551616 + lo) % y) w) := by
  have k1 := fun w2 => Try.bits_LeadingZeros64 y w2 (by omega) (by omega)
  rw [hs] at k1
  clear hs
  have hp : (1 : Int) ≤ 2 ^ s := by exact_mod_cast Nat.two_pow_pos s
  have hpp : (2 : Int) ^ (64 - s) * 2 ^ s = 18446744073709551616 := by
    rw [← Int.pow_add, show 64 - s + s = 64 by omega]; rfl
  have hp2 : (1 : Int) ≤ 2 ^ (64 - s) := by exact_mod_cast Nat.two_pow_pos (64 - s)
  obtain ⟨C, hC⟩ : ∃ C, lo / 2 ^ (64 - s) = C := ⟨_, rfl⟩
  have hC0 : 0 ≤ C := by rw [← hC]; exact Int.ediv_nonneg hl.1 (by omega)
  have hC1 : C < 2 ^ s := by rw [← hC, Int.ediv_lt_iff_lt_mul (by omega), Int.mul_comm, hpp]; omega
  have hHb : hi * 2 ^ s ≤ 18446744073709551615 := by
    have := Int.mul_le_mul_of_nonneg_right (show hi ≤ y by omega) (show 0 ≤ (2 : Int) ^ s by omega); omega
  have hor := u64_or hi C s (by omega) hHb hC0 hC1 (by omega)
  have hH0 : 0 ≤ hi * 2 ^ s := Int.mul_nonneg (by omega) (by omega)
  have wH := wraps_u64 (hi * 2 ^ s) hH0 (by omega)
  have wL : IntKind.u64.wrap (lo * 2 ^ s) = lo * 2 ^ s - C * 18446744073709551616 := by
    rw [IntKind.wrap_u64]
    have e := Int.mul_ediv_add_emod lo (2 ^ (64 - s))
    have e2 : lo * 2 ^ s = C * 18446744073709551616 + (lo % 2 ^ (64 - s)) * 2 ^ s := by
      rw [← hC, ← hpp]; generalize lo / 2 ^ (64 - s) = c at *; generalize lo % 2 ^ (64 - s) = r at *
      rw [← e]; generalize (2 : Int) ^ (64 - s) = P at *; generalize (2 : Int) ^ s = S at *; grind
    have r0 := Int.emod_nonneg lo (show (2 : Int) ^ (64 - s) ≠ 0 by omega)
    have r1 := Int.emod_lt_of_pos lo (show (0 : Int) < 2 ^ (64 - s) by omega)
    have r2 : 0 ≤ (lo % 2 ^ (64 - s)) * 2 ^ s := Int.mul_nonneg r0 (by omega)
    have r3 : (lo % 2 ^ (64 - s) + 1) * 2 ^ s ≤ 18446744073709551616 := by
      rw [← hpp]; exact Int.mul_le_mul_of_nonneg_right (by omega) (by omega)
    rw [Int.add_mul] at r3
    omega
  obtain ⟨Y, hYe⟩ : ∃ Y, y * 2 ^ s = Y := ⟨_, rfl⟩
  have wY : IntKind.u64.wrap (y * 2 ^ s) = Y := by rw [hYe, IntKind.wrap_u64]; omega
  obtain ⟨U, hU⟩ : ∃ U, hi * 2 ^ s + C = U := ⟨_, rfl⟩
  obtain ⟨L, hL⟩ : ∃ L, lo * 2 ^ s - C * 18446744073709551616 = L := ⟨_, rfl⟩
  have hLb : 0 ≤ L ∧ L ≤ 18446744073709551615 := by
    have := wL; rw [IntKind.wrap_u64, hL] at this; omega
  have hUY : U < Y := by
    have := Int.mul_le_mul_of_nonneg_right (show hi + 1 ≤ y by omega) (show 0 ≤ (2 : Int) ^ s by omega)
    rw [Int.add_mul] at this; omega
  obtain ⟨V1, hV1⟩ : ∃ V1, Y / 4294967296 = V1 := ⟨_, rfl⟩
  obtain ⟨V0, hV0⟩ : ∃ V0, Y % 4294967296 = V0 := ⟨_, rfl⟩
  obtain ⟨L1, hL1⟩ : ∃ L1, L / 4294967296 = L1 := ⟨_, rfl⟩
  obtain ⟨L0, hL0⟩ : ∃ L0, L % 4294967296 = L0 := ⟨_, rfl⟩
  have hL0b : 0 ≤ L0 ∧ L0 < 4294967296 := by omega
  have aY := u64_low Y (by omega)
  have aL := u64_low L hLb
  rw [hYe] at hY
  rw [hV0] at aY
  rw [hL0] at aL
  rw [hL] at wL
  rw [hU] at hor
  have hYv : V1 * 4294967296 + V0 = Y := by omega
  have fit : Dv.Fit U V1 V0 L1 := by unfold Dv.Fit; omega
  have fitb := fit
  unfold Dv.Fit at fitb
  have kst := Dv.k_start fit
  obtain ⟨Q0, hQ0⟩ : ∃ Q0, U / V1 = Q0 := ⟨_, rfl⟩
  rw [hQ0] at kst
  obtain ⟨P0, hP0⟩ : ∃ P0, Q0 * V1 = P0 := ⟨_, rfl⟩
  rw [hP0] at kst
  obtain ⟨kinv, kb1, kb2, kb3, kb4⟩ := kst
  have hQ0b : 0 ≤ Q0 := kinv.1
  have dig := Dv.k_digit fit
  obtain ⟨QD, hQD⟩ : ∃ QD, (U * 4294967296 + L1) / (V1 * 4294967296 + V0) = QD := ⟨_, rfl⟩
  rw [hQD] at dig
  have HQD := Lib.hid hQD
  rw [hYv] at dig
  obtain ⟨R1, hR1⟩ : ∃ R1, (U * 4294967296 + L1) % Y = R1 := ⟨_, rfl⟩
  rw [hR1] at dig
  obtain ⟨dg0, dg1, dg2⟩ := dig
  have dgx := dg2
  have hR1b : 0 ≤ R1 ∧ R1 < Y := by rw [← hR1]; exact ⟨Int.emod_nonneg _ (by omega), Int.emod_lt_of_pos _ (by omega)⟩
  have wR := wrap_rest_u U L1 QD Y R1 dg2 hR1b.1 (by omega)
  have fit2 : Dv.Fit R1 V1 V0 L0 := by unfold Dv.Fit; omega
  have kst2 := Dv.k_start fit2
  obtain ⟨Q1, hQ1⟩ : ∃ Q1, R1 / V1 = Q1 := ⟨_, rfl⟩
  rw [hQ1] at kst2
  obtain ⟨P1, hP1⟩ : ∃ P1, Q1 * V1 = P1 := ⟨_, rfl⟩
  rw [hP1] at kst2
  obtain ⟨kinv2, kc1, kc2, kc3, kc4⟩ := kst2
  have hQ1b : 0 ≤ Q1 := kinv2.1
  have dig2 := Dv.k_digit fit2
  obtain ⟨QE, hQE⟩ : ∃ QE, (R1 * 4294967296 + L0) / (V1 * 4294967296 + V0) = QE := ⟨_, rfl⟩
  rw [hQE] at dig2
  have HQE := Lib.hid hQE
  rw [hYv] at dig2
  obtain ⟨R2, hR2⟩ : ∃ R2, (R1 * 4294967296 + L0) % Y = R2 := ⟨_, rfl⟩
  rw [hR2] at dig2
  obtain ⟨dh0, dh1, dh2⟩ := dig2
  have dhx := dh2
  have hR2b : 0 ≤ R2 ∧ R2 < Y := by rw [← hR2]; exact ⟨Int.emod_nonneg _ (by omega), Int.emod_lt_of_pos _ (by omega)⟩
  have wR2 := wrap_rest_u R1 L0 QE Y R2 dh2 hR2b.1 (by omega)
  have hfin : R2 / 2 ^ s = (hi * 18446744073709551616 + lo) % y := by
    rw [← hR2, ← hR1, ← hYe]
    refine Dv.two_digits hp (by omega) (by omega) hl.1 ?_
    have e1 : L1 * 4294967296 + L0 = lo * 2 ^ s - C * 18446744073709551616 := by omega
    rw [← hU]
    generalize (2 : Int) ^ s = S at *
    grind
  have HF := Lib.hid hfin
  clear hfin
  have HYv := Lib.hid hYv
  clear hQD hR1 hU hL hYe hYv dg2 hpp hQE hR2 dh2 wR wR2
  have wR := wrap_rest_u U L1 QD Y R1 dgx hR1b.1 (by omega)
  have wR2 := wrap_rest_u R1 L0 QE Y R2 dhx hR2b.1 (by omega)
  clear dgx dhx hV0 hL0
  go_enter Try.func49, Try.ntmps49
  go_wp2_with (first | (go_at_call 50; refine (k1 _).mono ?_; rintro e w1 ⟨rfl, rfl⟩))
  go_loop [15, 16] (fun a b => ∃ q r : Int, Dv.KInv U V1 V0 L1 q r ∧ r < 4294967296 ∧ q < 8589934592 ∧ a = .int .u64 q ∧ b = .int .u64 r) (fun a _ => (intOf a).toNat)
  case atStart => exact ⟨Q0, U - P0, kinv, by omega, by omega, by rw [hQ0], rfl⟩
  case round =>
    obtain ⟨q, r, kin, hr, hq, rfl, rfl⟩ := hrel
    clear kinv hP0 hQ0
    have kq := kin.1
    have kr := kin.2.2.1
    by_cases hbig : 4294967296 ≤ q
    · have st := Dv.k_step fit kin (Or.inl hbig)
      by_cases hbr : 4294967296 ≤ r + V1
      · have hqd : q - 1 = QD := (Dv.k_break fit st.1 hbr).trans HQD.out
        clear kin st
        go_wp2_with fail
        go_loop [18, 16] (fun a b => ∃ q r : Int, Dv.KInv R1 V1 V0 L0 q r ∧ r < 4294967296 ∧ q < 8589934592 ∧ a = .int .u64 q ∧ b = .int .u64 r) (fun a _ => (intOf a).toNat)
        case atStart => exact ⟨Q1, R1 - P1, kinv2, by omega, by omega, by first | rfl | rw [hQ1], rfl⟩
        case round =>
          obtain ⟨q, r, kin, hr, hq, rfl, rfl⟩ := hrel
          clear kinv2 hP1 hQ1
          have kq := kin.1
          have kr := kin.2.2.1
          by_cases hbig : 4294967296 ≤ q
          · have st := Dv.k_step fit2 kin (Or.inl hbig)
            by_cases hbr : 4294967296 ≤ r + V1
            · have hqd : q - 1 = QE := (Dv.k_break fit2 st.1 hbr).trans HQE.out
              go_wp2_with fail
              go_ret2
              rw [← HF.out]; exact ⟨⟨_, rfl⟩, Q.refl _⟩
            · go_wp2_with fail
              go_round
              case rel => exact ⟨q - 1, r + V1, st.1, by omega, by omega, rfl, rfl⟩
              case measure => simp [intOf]; omega
          · have bd := Dv.k_bound fit2 kin hr (by omega)
            obtain ⟨P, hP⟩ : ∃ P, q * V0 = P := ⟨_, rfl⟩
            rw [hP] at bd
            by_cases ht : 4294967296 * r + L0 < P
            · have st := Dv.k_step fit2 kin (Or.inr (by rw [hP]; exact ht))
              by_cases hbr : 4294967296 ≤ r + V1
              · have hqd : q - 1 = QE := (Dv.k_break fit2 st.1 hbr).trans HQE.out
                go_wp2_with fail
                go_ret2
                rw [← HF.out]; exact ⟨⟨_, rfl⟩, Q.refl _⟩
              · go_wp2_with fail
                go_round
                case rel => exact ⟨q - 1, r + V1, st.1, by omega, by omega, rfl, rfl⟩
                case measure => simp [intOf]; omega
            · have hqd : q = QE := (Dv.k_stop fit2 kin (by rw [hP]; omega)).trans HQE.out
              subst hqd
              go_wp2_with fail
              go_ret2
              rw [← HF.out]; exact ⟨⟨_, rfl⟩, Q.refl _⟩
      · go_wp2_with fail
        go_round
        case rel => exact ⟨q - 1, r + V1, st.1, by omega, by omega, rfl, rfl⟩
        case measure => simp [intOf]; omega
    · have bd := Dv.k_bound fit kin hr (by omega)
      obtain ⟨P, hP⟩ : ∃ P, q * V0 = P := ⟨_, rfl⟩
      rw [hP] at bd
      by_cases ht : 4294967296 * r + L1 < P
      · have st := Dv.k_step fit kin (Or.inr (by rw [hP]; exact ht))
        by_cases hbr : 4294967296 ≤ r + V1
        · have hqd : q - 1 = QD := (Dv.k_break fit st.1 hbr).trans HQD.out
          clear kin st
          go_wp2_with fail
          go_loop [18, 16] (fun a b => ∃ q r : Int, Dv.KInv R1 V1 V0 L0 q r ∧ r < 4294967296 ∧ q < 8589934592 ∧ a = .int .u64 q ∧ b = .int .u64 r) (fun a _ => (intOf a).toNat)
          case atStart => exact ⟨Q1, R1 - P1, kinv2, by omega, by omega, by first | rfl | rw [hQ1], rfl⟩
          case round =>
            obtain ⟨q, r, kin, hr, hq, rfl, rfl⟩ := hrel
            clear kinv2 hP1 hQ1
            have kq := kin.1
            have kr := kin.2.2.1
            by_cases hbig : 4294967296 ≤ q
            · have st := Dv.k_step fit2 kin (Or.inl hbig)
              by_cases hbr : 4294967296 ≤ r + V1
              · have hqd : q - 1 = QE := (Dv.k_break fit2 st.1 hbr).trans HQE.out
                go_wp2_with fail
                go_ret2
                rw [← HF.out]; exact ⟨⟨_, rfl⟩, Q.refl _⟩
              · go_wp2_with fail
                go_round
                case rel => exact ⟨q - 1, r + V1, st.1, by omega, by omega, rfl, rfl⟩
                case measure => simp [intOf]; omega
            · have bd := Dv.k_bound fit2 kin hr (by omega)
              obtain ⟨P, hP⟩ : ∃ P, q * V0 = P := ⟨_, rfl⟩
              rw [hP] at bd
              by_cases ht : 4294967296 * r + L0 < P
              · have st := Dv.k_step fit2 kin (Or.inr (by rw [hP]; exact ht))
                by_cases hbr : 4294967296 ≤ r + V1
                · have hqd : q - 1 = QE := (Dv.k_break fit2 st.1 hbr).trans HQE.out
                  go_wp2_with fail
                  go_ret2
                  rw [← HF.out]; exact ⟨⟨_, rfl⟩, Q.refl _⟩
                · go_wp2_with fail
                  go_round
                  case rel => exact ⟨q - 1, r + V1, st.1, by omega, by omega, rfl, rfl⟩
                  case measure => simp [intOf]; omega
              · have hqd : q = QE := (Dv.k_stop fit2 kin (by rw [hP]; omega)).trans HQE.out
                subst hqd
                go_wp2_with fail
                go_ret2
                rw [← HF.out]; exact ⟨⟨_, rfl⟩, Q.refl _⟩
        · go_wp2_with fail
          go_round
          case rel => exact ⟨q - 1, r + V1, st.1, by omega, by omega, rfl, rfl⟩
          case measure => simp [intOf]; omega
      · have hqd : q = QD := (Dv.k_stop fit kin (by rw [hP]; omega)).trans HQD.out
        subst hqd
        clear kin
        go_wp2_with fail
        go_loop [18, 16] (fun a b => ∃ q r : Int, Dv.KInv R1 V1 V0 L0 q r ∧ r < 4294967296 ∧ q < 8589934592 ∧ a = .int .u64 q ∧ b = .int .u64 r) (fun a _ => (intOf a).toNat)
        case atStart => exact ⟨Q1, R1 - P1, kinv2, by omega, by omega, by first | rfl | rw [hQ1], rfl⟩
        case round =>
          obtain ⟨q, r, kin, hr, hq, rfl, rfl⟩ := hrel
          clear kinv2 hP1 hQ1
          have kq := kin.1
          have kr := kin.2.2.1
          by_cases hbig : 4294967296 ≤ q
          · have st := Dv.k_step fit2 kin (Or.inl hbig)
            by_cases hbr : 4294967296 ≤ r + V1
            · have hqd : q - 1 = QE := (Dv.k_break fit2 st.1 hbr).trans HQE.out
              go_wp2_with fail
              go_ret2
              rw [← HF.out]; exact ⟨⟨_, rfl⟩, Q.refl _⟩
            · go_wp2_with fail
              go_round
              case rel => exact ⟨q - 1, r + V1, st.1, by omega, by omega, rfl, rfl⟩
              case measure => simp [intOf]; omega
          · have bd := Dv.k_bound fit2 kin hr (by omega)
            obtain ⟨P, hP⟩ : ∃ P, q * V0 = P := ⟨_, rfl⟩
            rw [hP] at bd
            by_cases ht : 4294967296 * r + L0 < P
            · have st := Dv.k_step fit2 kin (Or.inr (by rw [hP]; exact ht))
              by_cases hbr : 4294967296 ≤ r + V1
              · have hqd : q - 1 = QE := (Dv.k_break fit2 st.1 hbr).trans HQE.out
                go_wp2_with fail
                go_ret2
                rw [← HF.out]; exact ⟨⟨_, rfl⟩, Q.refl _⟩
              · go_wp2_with fail
                go_round
                case rel => exact ⟨q - 1, r + V1, st.1, by omega, by omega, rfl, rfl⟩
                case measure => simp [intOf]; omega
            · have hqd : q = QE := (Dv.k_stop fit2 kin (by rw [hP]; omega)).trans HQE.out
              subst hqd
              go_wp2_with fail
              go_ret2
              rw [← HF.out]; exact ⟨⟨_, rfl⟩, Q.refl _⟩
end Go.Proofs.Ytfhplhfgcanfbaa
