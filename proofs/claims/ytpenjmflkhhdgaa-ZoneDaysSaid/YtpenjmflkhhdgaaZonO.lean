/- The walk of the law ZoneDays. -/
import Derived.Test.YtpenjmflkhhdgaaZonM
namespace Go.Proofs.Ytpenjmflkhhdgaa
open Go.RowKit
set_option linter.unusedVariables false
set_option maxRecDepth 20000 in
set_option maxHeartbeats 4000000 in
theorem zoneDays_walk (t n : Int) (wt : (Lit.int .i64 t).wf = true) (wn : (Lit.int .u16 n).wf = true) (w : World) :
    Calls Try.prog 8 #[.int .i64 t, .int .u16 n] w fun e w' => e = .returned (.bool true) ∧ Q w w' := by
  have hn := bdu16 wn
  clear wt wn
  obtain ⟨Z, hZ⟩ : ∃ Z, n % 1681 - 840 = Z := ⟨_, rfl⟩
  have hz : Zn.zOk Z := by unfold Zn.zOk; omega
  by_cases h : Zn.shOk t Z
  · obtain ⟨L, hL⟩ : ∃ L, t + 60 * Z = L := ⟨_, rfl⟩
    obtain ⟨S, hS⟩ : ∃ S, L % 86400 = S := ⟨_, rfl⟩
    have b1 := h.2.1
    unfold Cal.timeOk at b1
    have b3 := h.2.2
    unfold Cal.timeOk at b3
    rw [hL] at b3
    have b2 := hz
    unfold Zn.zOk at b2
    have hsum : Cal.cH L * 3600 + Cal.cI L * 60 + Cal.cS L = S := by unfold Cal.cH Cal.cI Cal.cS; omega
    have hcb := Cal.c_bd h.2.2
    rw [hL] at hcb
    by_cases hlt : t < S
    · have m1 : Zn.midV t Z = 0 := by unfold Zn.midV; rw [if_pos h, hL, hS, if_pos (by omega)]
      have m2 : Zn.midE t Z = 14 := by unfold Zn.midE; rw [if_pos h, hL, hS, if_pos (by omega)]
      go_enter Try.func8, Try.ntmps8
      go_wp2_with (first
        | (go_at_call 22; with_reducible refine (mid_any _ _ _).mono ?_; rw [m1, m2]; rintro e w1 ⟨rfl, rfl⟩)
        | (go_at_call 20; with_reducible refine (local_ok _ _ h _).mono ?_; rw [hL]; rintro e w2 ⟨rfl, hq2⟩)
        | (go_at_call 13; refine (works_any _).mono ?_; rintro e w5 ⟨rfl, hq5⟩))
      go_ret
      exact ⟨rfl, by repeat (first | exact Q.refl _ | assumption | refine Q.alloc ?_ _ | refine Q.drew ?_ | refine Q.trans ?_ (by assumption))⟩
    · obtain ⟨M, hMe⟩ : ∃ M, t - S = M := ⟨_, rfl⟩
      obtain ⟨M1, hM1⟩ : ∃ M1, M - 1 = M1 := ⟨_, rfl⟩
      obtain ⟨T1, hT1⟩ : ∃ T1, t + 86400 = T1 := ⟨_, rfl⟩
      have m1 : Zn.midV t Z = M := by unfold Zn.midV; rw [if_pos h, hL, hS, if_neg (by omega), hMe]
      have m2 : Zn.midE t Z = 0 := by unfold Zn.midE; rw [if_pos h, hL, hS, if_neg (by omega)]
      have hM : Zn.shOk M Z := by unfold Zn.shOk Cal.timeOk; exact ⟨hz, by omega, by omega⟩
      have hd : (M + 60 * Z) / 86400 = L / 86400 := by omega
      have c1 : Cal.cY (M + 60 * Z) = Cal.cY L := by unfold Cal.cY; rw [hd]
      have c2 : Cal.cM (M + 60 * Z) = Cal.cM L := by unfold Cal.cM; rw [hd]
      have c3 : Cal.cD (M + 60 * Z) = Cal.cD L := by unfold Cal.cD; rw [hd]
      have c4 : Cal.cH (M + 60 * Z) = 0 := by unfold Cal.cH; omega
      have c5 : Cal.cI (M + 60 * Z) = 0 := by unfold Cal.cI; omega
      have c6 : Cal.cS (M + 60 * Z) = 0 := by unfold Cal.cS; omega
      have s1 : Zn.sameE M t Z = 0 := by unfold Zn.sameE; rw [if_pos hM, if_pos h]
      have q1 : Zn.sameB M t Z = true := by unfold Zn.sameB; simp [hM, h, hd, hL]
      have q2 : Zn.sameB M1 t Z = false := by
        unfold Zn.sameB
        by_cases hk : Zn.shOk M1 Z
        · have : ¬ (M1 + 60 * Z) / 86400 = (t + 60 * Z) / 86400 := by omega
          simp [hk, h, this]
        · simp [hk]
      have hw : ((L + 86400) / 86400 + 4) % 7 = ((L / 86400 + 4) % 7 + 1) % 7 := by omega
      have eT : T1 + 60 * Z = L + 86400 := by omega
      have d1 : Cal.cH (T1 + 60 * Z) = Cal.cH L := by rw [eT]; unfold Cal.cH; omega
      have d2 : Cal.cI (T1 + 60 * Z) = Cal.cI L := by rw [eT]; unfold Cal.cI; omega
      have d3 : Cal.cS (T1 + 60 * Z) = Cal.cS L := by rw [eT]; unfold Cal.cS; omega
      have d4 : ((T1 + 60 * Z) / 86400 + 4) % 7 = ((L / 86400 + 4) % 7 + 1) % 7 := by rw [eT]; exact hw
      have wb : 0 ≤ (L / 86400 + 4) % 7 ∧ (L / 86400 + 4) % 7 ≤ 6 := by omega
      clear hd hw eT
      by_cases sm : Zn.sameE M1 t Z = 0
      · by_cases hT : Zn.shOk T1 Z
        · go_enter Try.func8, Try.ntmps8
          go_wp2_with (first
            | (go_at_call 22; with_reducible refine (mid_any t _ _).mono ?_; rw [m1, m2]; rintro e w1 ⟨rfl, rfl⟩)
            | (go_at_call 20; with_reducible refine (local_ok t _ h _).mono ?_; rw [hL]; rintro e w2 ⟨rfl, hq2⟩)
            | (go_at_call 20; with_reducible refine (local_ok M _ hM _).mono ?_; rw [c1, c2, c3, c4, c5, c6]; rintro e w3 ⟨rfl, hq3⟩)
            | (go_at_call 29; with_reducible refine (same_any M t Z _).mono ?_; rw [s1, q1]; rintro e w4 ⟨rfl, hq4⟩; obtain ⟨x0, x1, x2, x3, x4, x5, xz⟩ := box6 ((hq3.alloc _).trans hq4); obtain ⟨y0, y1, y2, y3, y4, y5, yz⟩ := box6 hq4)
            | (go_at_call 29; with_reducible refine (same_any M1 t Z _).mono ?_; rw [q2, sm]; rintro e w5 ⟨rfl, hq5⟩; obtain ⟨u0, u1, u2, u3, u4, u5, uz⟩ := box6 (((hq3.alloc _).trans hq4).trans hq5))
            | (go_at_call 24; with_reducible refine (zweek_ok t _ h _).mono ?_; rw [hL]; rintro e w6 ⟨rfl, rfl⟩)
            | (go_at_call 24; with_reducible refine (zweek_ok T1 _ hT _).mono ?_; rw [d4]; rintro e w7 ⟨rfl, rfl⟩)
            | (go_at_call 20; with_reducible refine (local_ok T1 _ hT _).mono ?_; rw [d1, d2, d3]; rintro e w8 ⟨rfl, hq8⟩; obtain ⟨v0, v1, v2, v3, v4, v5, vz⟩ := box6 ((((hq3.alloc _).trans hq4).trans hq5).trans hq8))
            | (go_at_call 13; refine (works_any _).mono ?_; rintro e w9 ⟨rfl, hq9⟩))
          go_ret
          exact ⟨rfl, by repeat (first | exact Q.refl _ | assumption | refine Q.alloc ?_ _ | refine Q.drew ?_ | refine Q.trans ?_ (by assumption))⟩
        · have g2 := sh_e hz hT
          go_enter Try.func8, Try.ntmps8
          go_wp2_with (first
            | (go_at_call 22; with_reducible refine (mid_any t _ _).mono ?_; rw [m1, m2]; rintro e w1 ⟨rfl, rfl⟩)
            | (go_at_call 20; with_reducible refine (local_ok t _ h _).mono ?_; rw [hL]; rintro e w2 ⟨rfl, hq2⟩)
            | (go_at_call 20; with_reducible refine (local_ok M _ hM _).mono ?_; rw [c1, c2, c3, c4, c5, c6]; rintro e w3 ⟨rfl, hq3⟩)
            | (go_at_call 29; with_reducible refine (same_any M t Z _).mono ?_; rw [s1, q1]; rintro e w4 ⟨rfl, hq4⟩; obtain ⟨x0, x1, x2, x3, x4, x5, xz⟩ := box6 ((hq3.alloc _).trans hq4); obtain ⟨y0, y1, y2, y3, y4, y5, yz⟩ := box6 hq4)
            | (go_at_call 29; with_reducible refine (same_any M1 t Z _).mono ?_; rw [q2, sm]; rintro e w5 ⟨rfl, hq5⟩; obtain ⟨u0, u1, u2, u3, u4, u5, uz⟩ := box6 (((hq3.alloc _).trans hq4).trans hq5))
            | (go_at_call 24; with_reducible refine (zweek_ok t _ h _).mono ?_; rw [hL]; rintro e w6 ⟨rfl, rfl⟩)
            | (go_at_call 24; with_reducible refine (zweek_err T1 _ hT _).mono ?_; rw [g2]; rintro e w7 ⟨rfl, rfl⟩)
            | (go_at_call 20; with_reducible refine (local_err T1 _ hT _).mono ?_; rw [g2]; rintro e w8 ⟨rfl, hq8⟩)
            | (go_at_call 13; refine (works_any _).mono ?_; rintro e w9 ⟨rfl, hq9⟩))
          go_ret
          exact ⟨rfl, by repeat (first | exact Q.refl _ | assumption | refine Q.alloc ?_ _ | refine Q.drew ?_ | refine Q.trans ?_ (by assumption))⟩
      · have smb : (Zn.sameE M1 t Z == 0) = false := beq_f sm
        by_cases hT : Zn.shOk T1 Z
        · go_enter Try.func8, Try.ntmps8
          go_wp2_with (first
            | (go_at_call 22; with_reducible refine (mid_any t _ _).mono ?_; rw [m1, m2]; rintro e w1 ⟨rfl, rfl⟩)
            | (go_at_call 20; with_reducible refine (local_ok t _ h _).mono ?_; rw [hL]; rintro e w2 ⟨rfl, hq2⟩)
            | (go_at_call 20; with_reducible refine (local_ok M _ hM _).mono ?_; rw [c1, c2, c3, c4, c5, c6]; rintro e w3 ⟨rfl, hq3⟩)
            | (go_at_call 29; with_reducible refine (same_any M t Z _).mono ?_; rw [s1, q1]; rintro e w4 ⟨rfl, hq4⟩; obtain ⟨x0, x1, x2, x3, x4, x5, xz⟩ := box6 ((hq3.alloc _).trans hq4); obtain ⟨y0, y1, y2, y3, y4, y5, yz⟩ := box6 hq4)
            | (go_at_call 29; with_reducible refine (same_any M1 t Z _).mono ?_; rw [q2]; rintro e w5 ⟨rfl, hq5⟩; obtain ⟨u0, u1, u2, u3, u4, u5, uz⟩ := box6 (((hq3.alloc _).trans hq4).trans hq5))
            | (go_at_call 24; with_reducible refine (zweek_ok t _ h _).mono ?_; rw [hL]; rintro e w6 ⟨rfl, rfl⟩)
            | (go_at_call 24; with_reducible refine (zweek_ok T1 _ hT _).mono ?_; rw [d4]; rintro e w7 ⟨rfl, rfl⟩)
            | (go_at_call 20; with_reducible refine (local_ok T1 _ hT _).mono ?_; rw [d1, d2, d3]; rintro e w8 ⟨rfl, hq8⟩; obtain ⟨v0, v1, v2, v3, v4, v5, vz⟩ := box6 ((((hq3.alloc _).trans hq4).trans hq5).trans hq8))
            | (go_at_call 13; refine (works_any _).mono ?_; rintro e w9 ⟨rfl, hq9⟩))
          go_ret
          exact ⟨rfl, by repeat (first | exact Q.refl _ | assumption | refine Q.alloc ?_ _ | refine Q.drew ?_ | refine Q.trans ?_ (by assumption))⟩
        · have g2 := sh_e hz hT
          go_enter Try.func8, Try.ntmps8
          go_wp2_with (first
            | (go_at_call 22; with_reducible refine (mid_any t _ _).mono ?_; rw [m1, m2]; rintro e w1 ⟨rfl, rfl⟩)
            | (go_at_call 20; with_reducible refine (local_ok t _ h _).mono ?_; rw [hL]; rintro e w2 ⟨rfl, hq2⟩)
            | (go_at_call 20; with_reducible refine (local_ok M _ hM _).mono ?_; rw [c1, c2, c3, c4, c5, c6]; rintro e w3 ⟨rfl, hq3⟩)
            | (go_at_call 29; with_reducible refine (same_any M t Z _).mono ?_; rw [s1, q1]; rintro e w4 ⟨rfl, hq4⟩; obtain ⟨x0, x1, x2, x3, x4, x5, xz⟩ := box6 ((hq3.alloc _).trans hq4); obtain ⟨y0, y1, y2, y3, y4, y5, yz⟩ := box6 hq4)
            | (go_at_call 29; with_reducible refine (same_any M1 t Z _).mono ?_; rw [q2]; rintro e w5 ⟨rfl, hq5⟩; obtain ⟨u0, u1, u2, u3, u4, u5, uz⟩ := box6 (((hq3.alloc _).trans hq4).trans hq5))
            | (go_at_call 24; with_reducible refine (zweek_ok t _ h _).mono ?_; rw [hL]; rintro e w6 ⟨rfl, rfl⟩)
            | (go_at_call 24; with_reducible refine (zweek_err T1 _ hT _).mono ?_; rw [g2]; rintro e w7 ⟨rfl, rfl⟩)
            | (go_at_call 20; with_reducible refine (local_err T1 _ hT _).mono ?_; rw [g2]; rintro e w8 ⟨rfl, hq8⟩)
            | (go_at_call 13; refine (works_any _).mono ?_; rintro e w9 ⟨rfl, hq9⟩))
          go_ret
          exact ⟨rfl, by repeat (first | exact Q.refl _ | assumption | refine Q.alloc ?_ _ | refine Q.drew ?_ | refine Q.trans ?_ (by assumption))⟩
  · have hs := sh_e hz h
    have m2 : Zn.midE t Z = 14 := by unfold Zn.midE; rw [if_neg h, hs]
    go_enter Try.func8, Try.ntmps8
    go_wp2_with (first
      | (go_at_call 22; with_reducible refine (mid_any _ _ _).mono ?_; rw [m2]; rintro e w1 ⟨rfl, rfl⟩)
      | (go_at_call 20; with_reducible refine (local_err _ _ h _).mono ?_; rw [hs]; rintro e w2 ⟨rfl, hq2⟩)
      | (go_at_call 13; refine (works_any _).mono ?_; rintro e w5 ⟨rfl, hq5⟩))
    go_ret
    exact ⟨rfl, by repeat (first | exact Q.refl _ | assumption | refine Q.alloc ?_ _ | refine Q.drew ?_ | refine Q.trans ?_ (by assumption))⟩
end Go.Proofs.Ytpenjmflkhhdgaa
