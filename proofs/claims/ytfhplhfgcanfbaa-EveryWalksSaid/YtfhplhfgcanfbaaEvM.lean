/- The contract of the document's Meet. -/
import Derived.Test.YtfhplhfgcanfbaaEvK
import Derived.Test.YtfhplhfgcanfbaaEvL
import Derived.Test.YtfhplhfgcanfbaaEvG
namespace Go.Proofs.Ytfhplhfgcanfbaa
open Go.RowKit
set_option linter.unusedVariables false
set_option linter.unusedSimpArgs false
set_option maxHeartbeats 16000000 in
theorem rmeet_any (s1 p1 c1 s2 p2 c2 : Int) (h1 : Ev.Ok s1 p1 c1) (h2 : Ev.Ok s2 p2 c2) (w : World) :
    Calls Try.prog 18 #[.agg #[.int .i64 s1, .int .i64 p1, .int .i64 c1], .agg #[.int .i64 s2, .int .i64 p2, .int .i64 c2]] w (MeetPost s1 p1 c1 s2 p2 c2 w) := by
  have k1 := fun w2 => rcheck_ok s1 p1 c1 h1 w2
  have k2 := fun w2 => rcheck_ok s2 p2 c2 h2 w2
  have b1 := h1
  have b2 := h2
  unfold Ev.Ok at b1 b2
  go_enter Try.func18, Try.ntmps18
  go_wp2_with (first
    | (go_at_call 33; with_reducible refine (k1 _).mono ?_; rintro e w1 ⟨rfl, hq1⟩; obtain ⟨x1, x2, x3⟩ := qcell hq1; have hz1 : w.heap.size + 1 < w1.heap.size := (by have := hq1.size; simp at this; omega); have hz10 : w.heap.size < w1.heap.size := (by omega))
    | (go_at_call 33; with_reducible refine (k2 _).mono ?_; rintro e w2 ⟨rfl, hq2⟩; obtain ⟨y1, y2, y3⟩ := qcell hq2; have hz2 : w.heap.size + 1 < w2.heap.size := (by have := hq2.size; omega)))
  clear k1 k2
  refine (euclid_any p2.toNat p1 p2 _ (by omega) (by omega) (by omega) (by omega) (Nat.le_refl _)).mono ?_
  rintro e w3 ⟨⟨g, x, y, rfl, her, hg⟩, nd, hw3⟩
  have he := Ev.euR_eu her
  have xb : -68719476737 ≤ x ∧ x ≤ 68719476737 := by unfold Ev.EuR at her; omega
  have hq3 : Q w w3 := by rw [hw3]; exact ((((Q.refl w).alloc _).alloc _).trans hq1 |>.trans hq2).drewN nd
  have hz3 : w.heap.size + 1 < w3.heap.size := by rw [hw3]; exact hz2
  have ac0 : w3.cell? ⟨w.heap.size, 0, none⟩ = some (.int .i64 s1) := by rw [hw3]; exact ((hq2.cell (p := ⟨w.heap.size, 0, none⟩) (by omega)).trans ((hq1.cell (p := ⟨w.heap.size, 0, none⟩) (by simp <;> omega)).trans (by simp)))
  have ac1 : w3.cell? ⟨w.heap.size, 1, none⟩ = some (.int .i64 p1) := by rw [hw3]; exact ((hq2.cell (p := ⟨w.heap.size, 1, none⟩) (by omega)).trans ((hq1.cell (p := ⟨w.heap.size, 1, none⟩) (by simp <;> omega)).trans (by simp)))
  have ac2 : w3.cell? ⟨w.heap.size, 2, none⟩ = some (.int .i64 c1) := by rw [hw3]; exact ((hq2.cell (p := ⟨w.heap.size, 2, none⟩) (by omega)).trans ((hq1.cell (p := ⟨w.heap.size, 2, none⟩) (by simp <;> omega)).trans (by simp)))
  have bc0 : w3.cell? ⟨w.heap.size + 1, 0, none⟩ = some (.int .i64 s2) := by rw [hw3]; exact ((hq2.cell (p := ⟨w.heap.size + 1, 0, none⟩) (by omega)).trans ((hq1.cell (p := ⟨w.heap.size + 1, 0, none⟩) (by simp <;> omega)).trans (by simp)))
  have bc1 : w3.cell? ⟨w.heap.size + 1, 1, none⟩ = some (.int .i64 p2) := by rw [hw3]; exact ((hq2.cell (p := ⟨w.heap.size + 1, 1, none⟩) (by omega)).trans ((hq1.cell (p := ⟨w.heap.size + 1, 1, none⟩) (by simp <;> omega)).trans (by simp)))
  have bc2 : w3.cell? ⟨w.heap.size + 1, 2, none⟩ = some (.int .i64 c2) := by rw [hw3]; exact ((hq2.cell (p := ⟨w.heap.size + 1, 2, none⟩) (by omega)).trans ((hq1.cell (p := ⟨w.heap.size + 1, 2, none⟩) (by simp <;> omega)).trans (by simp)))
  clear hw3 hq1 hq2 hz10 hz1 hz2 x1 x2 x3 y1 y2 y3 her
  have g1 := he.1
  have hm := Ev.eu_m he b2.2.2.1
  obtain ⟨d, hd⟩ : ∃ d, (s2 - s1) % p2 = d := ⟨_, rfl⟩
  have d0 : 0 ≤ d := by rw [← hd]; exact Int.emod_nonneg _ (by omega)
  have d1 : d < p2 := by rw [← hd]; exact Int.emod_lt_of_pos _ (by omega)
  have tm := Int.tmod_eq_emod (a := s2 - s1) (b := p2)
  obtain ⟨T, hT⟩ : ∃ T, (s2 - s1).tmod p2 = T := ⟨_, rfl⟩
  rw [hT, hd] at tm
  have hTd : T = d ∨ (T = d - p2 ∧ T < 0) := by split at tm <;> omega
  clear tm
  by_cases hz : d % g = 0
  · obtain ⟨m, hme⟩ : ∃ m, p2 / g = m := ⟨_, rfl⟩
    obtain ⟨D, hD⟩ : ∃ D, d / g = D := ⟨_, rfl⟩
    have D0 : 0 ≤ D := by rw [← hD]; exact Int.ediv_nonneg d0 (by omega)
    have D1 : D ≤ d := by rw [← hD]; exact Int.ediv_le_self _ d0
    rw [hme] at hm
    obtain ⟨A, hA⟩ : ∃ A, D % m = A := ⟨_, rfl⟩
    obtain ⟨X, hX⟩ : ∃ X, x % m = X := ⟨_, rfl⟩
    have A0 : 0 ≤ A := by rw [← hA]; exact Int.emod_nonneg _ (by omega)
    have A1 : A < m := by rw [← hA]; exact Int.emod_lt_of_pos _ (by omega)
    have X0 : 0 ≤ X := by rw [← hX]; exact Int.emod_nonneg _ (by omega)
    have X1 : X < m := by rw [← hX]; exact Int.emod_lt_of_pos _ (by omega)
    obtain ⟨K, hK⟩ : ∃ K, A * X % m = K := ⟨_, rfl⟩
    have hKe : (d / g * x) % (p2 / g) = K := by rw [hme, hD, Int.mul_emod, hA, hX]; exact hK
    have K0 : 0 ≤ K := by rw [← hK]; exact Int.emod_nonneg _ (by omega)
    have K1 : K < m := by rw [← hK]; exact Int.emod_lt_of_pos _ (by omega)
    have k3 := fun w2 => times_any A X m ⟨A0, A1⟩ ⟨X0, X1⟩ (by omega) w2
    rw [hK] at k3
    have txm := Int.tmod_eq_emod (a := x) (b := m)
    obtain ⟨Y, hY⟩ : ∃ Y, x.tmod m = Y := ⟨_, rfl⟩
    rw [hY, hX] at txm
    have hYx : Y = X ∨ (Y = X - m ∧ Y < 0) := by split at txm <;> omega
    clear txm hK hX
    obtain ⟨F, hF⟩ : ∃ F, (253402300799 - s1) / p1 = F := ⟨_, rfl⟩
    obtain ⟨G, hG⟩ : ∃ G, 253402300799 / p1 = G := ⟨_, rfl⟩
    obtain ⟨P, hP⟩ : ∃ P, K * p1 = P := ⟨_, rfl⟩
    obtain ⟨st, hst⟩ : ∃ st, m * p1 = st := ⟨_, rfl⟩
    have st1 : 1 ≤ st := by rw [← hst]; have := Int.mul_le_mul_of_nonneg_right hm.1 (show 0 ≤ p1 by omega); omega
    have P0 : 0 ≤ P := by rw [← hP]; exact Ev.tm_nonneg b1.2.2.1 K0
    have farF : F < K → Ev.MeetR s1 p1 c1 s2 p2 c2 0 false := fun h => Ev.ref_far h1 h2 he hd.symm hz hKe (by rw [hF]; exact h)
    have stepF : s1 + P < s2 → G < m → Ev.MeetR s1 p1 c1 s2 p2 c2 0 false := fun h h' => Ev.ref_step h1 h2 he hd.symm hz hKe (by rw [hP]; exact h) (by rw [hG, hme]; exact h')
    have nearP : ¬ F < K → s1 + P ≤ 253402300799 := by
      intro h
      have : K * p1 ≤ 253402300799 - s1 := (Int.le_ediv_iff_mul_le (by omega)).1 (show K ≤ (253402300799 - s1) / p1 by rw [hF]; omega)
      omega
    have nearS : ¬ G < m → st ≤ 253402300799 := by
      intro h
      have : m * p1 ≤ 253402300799 := (Int.le_ediv_iff_mul_le (by omega)).1 (show m ≤ 253402300799 / p1 by rw [hG]; omega)
      omega
    have some1 := fun Tt (hTt : Ev.up (s1 + P) s2 st = Tt) ok hok => Ev.ref_some (c1 := c1) (c2 := c2) h1 h2 he hd.symm hz hKe (T := Tt) (by rw [hP, hme, hst]; exact hTt) ok hok
    have late1 := fun Tt (hTt : Ev.up (s1 + P) s2 st = Tt) hl => Ev.ref_late (c1 := c1) (c2 := c2) h1 h2 he hd.symm hz hKe (T := Tt) (by rw [hP, hme, hst]; exact hTt) hl
    have hdf := bne_f hz
    have gz : (g = 0) = False := by simp; omega
    have H1 := Lib.hid h1
    have H2 := Lib.hid h2
    clear hKe he hd hz h1 h2
    rcases hTd with hTe | ⟨hTe, hTn⟩
    all_goals
      first | (subst hTe; have hTn : 0 ≤ T := (by omega)) | (have hTe2 : T + p2 = d := (by omega))
      rcases hYx with hYe | ⟨hYe, hYn⟩
      all_goals
        first | (subst hYe; have hYn : 0 ≤ Y := (by omega)) | (have hYe2 : Y + m = X := (by omega))
        by_cases hfar : F < K
        · have hmr := farF hfar
          go_wp2_with (first
            | (go_at_call 45; refine (k3 _).mono ?_; rintro e w4 ⟨rfl, rfl⟩))
          go_ret3
          exact ⟨⟨_, _, rfl, hmr⟩, by repeat (first | exact Q.refl _ | assumption | refine Q.alloc ?_ _ | refine Q.drew ?_ | refine Q.drewN ?_ _ | refine Q.trans ?_ (by assumption))⟩
        have hnp := nearP hfar
        by_cases hlt : s1 + P < s2
        · by_cases hgm : G < m
          · have hmr := stepF hlt hgm
            go_wp2_with (first
              | (go_at_call 45; refine (k3 _).mono ?_; rintro e w4 ⟨rfl, rfl⟩))
            go_ret3
            exact ⟨⟨_, _, rfl, hmr⟩, by repeat (first | exact Q.refl _ | assumption | refine Q.alloc ?_ _ | refine Q.drew ?_ | refine Q.drewN ?_ _ | refine Q.trans ?_ (by assumption))⟩
          have hns := nearS hgm
          obtain ⟨q, hq⟩ : ∃ q, (s2 - (s1 + P) + st - 1) / st = q := ⟨_, rfl⟩
          obtain ⟨r, hr⟩ : ∃ r, q * st = r := ⟨_, rfl⟩
          have q0 : 0 ≤ q := by rw [← hq]; exact Int.ediv_nonneg (by omega) (by omega)
          have r0 : 0 ≤ r := by rw [← hr]; exact Int.mul_nonneg q0 (by omega)
          have r1 : r ≤ s2 - (s1 + P) + st - 1 := by
            rw [← hr, ← hq]; exact (Int.le_ediv_iff_mul_le (by omega)).1 (Int.le_refl _)
          have hup : Ev.up (s1 + P) s2 st = s1 + P + r := by unfold Ev.up; rw [if_pos hlt, hq, hr]
          obtain ⟨Z, hZ⟩ : ∃ Z, s1 + P + r = Z := ⟨_, rfl⟩
          rw [hZ] at hup
          by_cases hl : 253402300799 < Z
          · have hmr := late1 Z hup hl
            go_wp2_with (first
              | (go_at_call 45; refine (k3 _).mono ?_; rintro e w4 ⟨rfl, rfl⟩))
            go_ret3
            exact ⟨⟨_, _, rfl, hmr⟩, by repeat (first | exact Q.refl _ | assumption | refine Q.alloc ?_ _ | refine Q.drew ?_ | refine Q.drewN ?_ _ | refine Q.trans ?_ (by assumption))⟩
          have Zb : 0 ≤ Z ∧ Z ≤ 253402300799 := by omega
          have k4 := fun w2 => ris_ok s1 p1 c1 Z H1.out Zb w2
          have k5 := fun w2 => ris_ok s2 p2 c2 Z H2.out Zb w2
          have hso := some1 Z hup
          obtain ⟨I1, hI1⟩ : ∃ I, Ev.isB s1 p1 c1 Z = I := ⟨_, rfl⟩
          obtain ⟨I2, hI2⟩ : ∃ I, Ev.isB s2 p2 c2 Z = I := ⟨_, rfl⟩
          rw [hI1] at k4
          rw [hI2] at k5
          have HR := Lib.hid (hso (I1 && I2) (by rw [hI1, hI2]))
          clear hso hI1 hI2 hup some1 late1 farF stepF nearP nearS
          cases I1 <;> cases I2
          all_goals
            go_wp2_with (first
              | (go_at_call 45; refine (k3 _).mono ?_; rintro e w4 ⟨rfl, rfl⟩)
              | (go_at_call 29; with_reducible refine (k4 _).mono ?_; rintro e w5 ⟨rfl, hq5⟩; obtain ⟨z1, z2, z3⟩ := qcell hq5)
              | (go_at_call 29; with_reducible refine (k5 _).mono ?_; rintro e w6 ⟨rfl, hq6⟩))
            go_ret3
            exact ⟨⟨_, _, rfl, HR.out⟩, by repeat (first | exact Q.refl _ | assumption | refine Q.alloc ?_ _ | refine Q.drew ?_ | refine Q.drewN ?_ _ | refine Q.trans ?_ (by assumption))⟩
        obtain ⟨Z, hZ⟩ : ∃ Z, s1 + P = Z := ⟨_, rfl⟩
        have hup : Ev.up (s1 + P) s2 st = Z := by unfold Ev.up; rw [if_neg hlt, hZ]
        rw [hZ] at hnp
        have Zb : 0 ≤ Z ∧ Z ≤ 253402300799 := by omega
        have k4 := fun w2 => ris_ok s1 p1 c1 Z H1.out Zb w2
        have k5 := fun w2 => ris_ok s2 p2 c2 Z H2.out Zb w2
        have hso := some1 Z hup
        obtain ⟨I1, hI1⟩ : ∃ I, Ev.isB s1 p1 c1 Z = I := ⟨_, rfl⟩
        obtain ⟨I2, hI2⟩ : ∃ I, Ev.isB s2 p2 c2 Z = I := ⟨_, rfl⟩
        rw [hI1] at k4
        rw [hI2] at k5
        have HR := Lib.hid (hso (I1 && I2) (by rw [hI1, hI2]))
        clear hso hI1 hI2 hup some1 late1 farF stepF nearP nearS
        cases I1 <;> cases I2
        all_goals
          go_wp2_with (first
            | (go_at_call 45; refine (k3 _).mono ?_; rintro e w4 ⟨rfl, rfl⟩)
            | (go_at_call 29; with_reducible refine (k4 _).mono ?_; rintro e w5 ⟨rfl, hq5⟩; obtain ⟨z1, z2, z3⟩ := qcell hq5)
            | (go_at_call 29; with_reducible refine (k5 _).mono ?_; rintro e w6 ⟨rfl, hq6⟩))
          go_ret3
          exact ⟨⟨_, _, rfl, HR.out⟩, by repeat (first | exact Q.refl _ | assumption | refine Q.alloc ?_ _ | refine Q.drew ?_ | refine Q.drewN ?_ _ | refine Q.trans ?_ (by assumption))⟩
  · have hmr := Ev.prog_none (c1 := c1) (c2 := c2) h1 h2 he hd.symm hz
    have hdb := bne_t hz
    clear hd hz hm he h1 h2
    rcases hTd with hTe | ⟨hTe, hTn⟩
    all_goals
      first | (subst hTe; have hTn : 0 ≤ T := (by omega)) | (have hTe2 : T + p2 = d := (by omega))
      go_wp2_with fail
      go_ret3
      exact ⟨⟨_, _, rfl, hmr⟩, by repeat (first | exact Q.refl _ | assumption | refine Q.alloc ?_ _ | refine Q.drew ?_ | refine Q.drewN ?_ _ | refine Q.trans ?_ (by assumption))⟩
end Go.Proofs.Ytfhplhfgcanfbaa
