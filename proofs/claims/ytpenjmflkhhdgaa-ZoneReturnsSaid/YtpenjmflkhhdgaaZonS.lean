/- The walk of the law ZoneReturns. -/
import Derived.Test.YtpenjmflkhhdgaaZonM
namespace Go.Proofs.Ytpenjmflkhhdgaa
open Go.RowKit
set_option linter.unusedVariables false
set_option maxRecDepth 20000 in
set_option maxHeartbeats 2000000 in
theorem zoneReturns_walk (t y m d h i s z : Int) (wt : (Lit.int .i64 t).wf = true) (wy : (Lit.int .i64 y).wf = true) (wm : (Lit.int .i64 m).wf = true) (wd : (Lit.int .i64 d).wf = true) (wh : (Lit.int .i64 h).wf = true) (wi : (Lit.int .i64 i).wf = true) (ws : (Lit.int .i64 s).wf = true) (wz : (Lit.int .i64 z).wf = true) (w : World) :
    Calls Try.prog 11 #[.int .i64 t, .agg #[.int .i64 y, .int .i64 m, .int .i64 d, .int .i64 h, .int .i64 i, .int .i64 s], .int .i64 z] w fun e w' => e = .returned (.bool true) ∧ Q w w' := by
  have hh := bd64 wh
  have hi := bd64 wi
  have hs := bd64 ws
  have k1 := fun w2 => back_any y m d h i s z hh hi hs w2
  have cut : (Zn.backE y m d h i s z = 0 ∧ Zn.shOk (Zn.backV y m d h i s z) z ∧ Cal.cY (Zn.backV y m d h i s z + 60 * z) = y ∧ Cal.cM (Zn.backV y m d h i s z + 60 * z) = m ∧ Cal.cD (Zn.backV y m d h i s z + 60 * z) = d ∧ Cal.cH (Zn.backV y m d h i s z + 60 * z) = h ∧ Cal.cI (Zn.backV y m d h i s z + 60 * z) = i ∧ Cal.cS (Zn.backV y m d h i s z + 60 * z) = s) ∨ (Zn.backE y m d h i s z ≠ 0 ∧ Zn.backV y m d h i s z = 0) := by
    by_cases g : Zn.zOk z ∧ Cal.Good y m d h i s
    · by_cases tt : Cal.timeOk (Cal.secs y m d h i s - 60 * z)
      · have ev : Zn.backV y m d h i s z = Cal.secs y m d h i s - 60 * z := by unfold Zn.backV; rw [if_pos ⟨g.1, g.2, tt⟩]
        have e2 : Cal.secs y m d h i s - 60 * z + 60 * z = Cal.secs y m d h i s := by omega
        left
        rw [ev, e2]
        refine ⟨by unfold Zn.backE; rw [if_pos g, if_pos tt], ⟨g.1, tt, by rw [e2]; exact (Cal.secs_range g.2).1⟩, Cal.of_secs g.2⟩
      · right
        exact ⟨by unfold Zn.backE; rw [if_pos g, if_neg tt]; decide, by unfold Zn.backV; rw [if_neg (fun k => tt k.2.2)]⟩
    · right
      exact ⟨by unfold Zn.backE; rw [if_neg g]; decide, by unfold Zn.backV; rw [if_neg (fun k => g ⟨k.1, k.2.1⟩)]⟩
  obtain ⟨B, hB⟩ : ∃ B, Zn.backV y m d h i s z = B := ⟨_, rfl⟩
  obtain ⟨E, hE⟩ : ∃ E, Zn.backE y m d h i s z = E := ⟨_, rfl⟩
  rw [hB, hE] at cut
  have k1 : ∀ w2, Calls Try.prog 31 #[.agg #[.int .i64 y, .int .i64 m, .int .i64 d, .int .i64 h, .int .i64 i, .int .i64 s], .int .i64 z] w2 fun e w' => e = .returned (.tuple #[.int .i64 B, .int .i64 E]) ∧ Q w2 w' := by
    intro w2; have := k1 w2; rw [hB, hE] at this; exact this
  clear wy wm wd wh wi ws wz hh hi hs
  by_cases hz : Zn.shOk t z
  · obtain ⟨L, hL⟩ : ∃ L, t + 60 * z = L := ⟨_, rfl⟩
    have ga := Cal.good_of hz.2.2
    have cb := Cal.c_bd hz.2.2
    rw [hL] at ga cb
    have l1 := fun w2 => local_ok t z hz w2
    rw [hL] at l1
    have b1 := fun w2 => back_any (Cal.cY L) (Cal.cM L) (Cal.cD L) (Cal.cH L) (Cal.cI L) (Cal.cS L) z (by omega) (by omega) (by omega) w2
    have ev : Zn.backV (Cal.cY L) (Cal.cM L) (Cal.cD L) (Cal.cH L) (Cal.cI L) (Cal.cS L) z = t := by
      unfold Zn.backV; rw [ga.2, show L - 60 * z = t by omega, if_pos ⟨hz.1, ga.1, hz.2.1⟩]
    have ee : Zn.backE (Cal.cY L) (Cal.cM L) (Cal.cD L) (Cal.cH L) (Cal.cI L) (Cal.cS L) z = 0 := by
      unfold Zn.backE; rw [ga.2, show L - 60 * z = t by omega, if_pos ⟨hz.1, ga.1⟩, if_pos hz.2.1]
    rw [ev, ee] at b1
    clear ga cb ev ee
    rcases cut with ⟨rfl, g1, g2, g3, g4, g5, g6, g7⟩ | ⟨g1, rfl⟩
    · have l2 := fun w2 => local_ok B z g1 w2
      rw [g2, g3, g4, g5, g6, g7] at l2
      have he := fun w2 => eql6 y m d h i s y m d h i s w2
      simp only [same6_refl] at he
      clear g1 g2 g3 g4 g5 g6 g7 hB hE
      go_enter Try.func11, Try.ntmps11
      go_wp2_with (first
        | (go_at_call 20; with_reducible refine (l1 _).mono ?_; rintro e w1 ⟨rfl, hq1⟩; obtain ⟨u0, u1, u2, u3, u4, u5, uz⟩ := box6 hq1)
        | (go_at_call 31; with_reducible refine (b1 _).mono ?_; rintro e w2 ⟨rfl, hq2⟩; obtain ⟨v0, v1, v2, v3, v4, v5, vz⟩ := box6 ((hq1.alloc _).trans hq2))
        | (go_at_call 31; with_reducible refine (k1 _).mono ?_; rintro e w3 ⟨rfl, hq3⟩; obtain ⟨x0, x1, x2, x3, x4, x5, xz⟩ := box6 (((hq1.alloc _).trans hq2).trans hq3))
        | (go_at_call 20; with_reducible refine (l2 _).mono ?_; rintro e w4 ⟨rfl, hq4⟩; obtain ⟨y0, y1, y2, y3, y4, y5, yz⟩ := box6 ((((hq1.alloc _).trans hq2).trans hq3).trans hq4))
        | (go_at_call 13; refine (works_any _).mono ?_; rintro e w9 ⟨rfl, hq9⟩))
      go_ret
      exact ⟨rfl, by repeat (first | exact Q.refl _ | assumption | refine Q.alloc ?_ _ | refine Q.drew ?_ | refine Q.drewN ?_ _ | refine Q.trans ?_ (by assumption))⟩
    · have hne := bne_t g1
      clear g1 hB hE
      go_enter Try.func11, Try.ntmps11
      go_wp2_with (first
        | (go_at_call 20; with_reducible refine (l1 _).mono ?_; rintro e w1 ⟨rfl, hq1⟩; obtain ⟨u0, u1, u2, u3, u4, u5, uz⟩ := box6 hq1)
        | (go_at_call 31; with_reducible refine (b1 _).mono ?_; rintro e w2 ⟨rfl, hq2⟩; obtain ⟨v0, v1, v2, v3, v4, v5, vz⟩ := box6 ((hq1.alloc _).trans hq2))
        | (go_at_call 31; with_reducible refine (k1 _).mono ?_; rintro e w3 ⟨rfl, hq3⟩; obtain ⟨x0, x1, x2, x3, x4, x5, xz⟩ := box6 (((hq1.alloc _).trans hq2).trans hq3))
        | (go_at_call 13; refine (works_any _).mono ?_; rintro e w9 ⟨rfl, hq9⟩))
      go_ret
      exact ⟨rfl, by repeat (first | exact Q.refl _ | assumption | refine Q.alloc ?_ _ | refine Q.drew ?_ | refine Q.drewN ?_ _ | refine Q.trans ?_ (by assumption))⟩
  · have l1 := fun w2 => local_err t z hz w2
    have hne1 := bne_t (Zn.shE_ne hz)
    have hbe : (Zn.shE t z == 0) = false := beq_f (Zn.shE_ne hz)
    have hz6 := fun w2 => neq6 0 0 0 0 0 0 0 0 0 0 0 0 w2
    simp only [same6_refl, Bool.not_true] at hz6
    rcases cut with ⟨rfl, g1, g2, g3, g4, g5, g6, g7⟩ | ⟨g1, rfl⟩
    · have l2 := fun w2 => local_ok B z g1 w2
      rw [g2, g3, g4, g5, g6, g7] at l2
      have he := fun w2 => eql6 y m d h i s y m d h i s w2
      simp only [same6_refl] at he
      clear g1 g2 g3 g4 g5 g6 g7 hB hE
      go_enter Try.func11, Try.ntmps11
      go_wp2_with (first
        | (go_at_call 20; with_reducible refine (l1 _).mono ?_; rintro e w1 ⟨rfl, hq1⟩; obtain ⟨u0, u1, u2, u3, u4, u5, uz⟩ := box6 hq1)
        | (go_at_call 31; with_reducible refine (k1 _).mono ?_; rintro e w3 ⟨rfl, hq3⟩; obtain ⟨x0, x1, x2, x3, x4, x5, xz⟩ := box6 ((hq1.alloc _).trans hq3))
        | (go_at_call 20; with_reducible refine (l2 _).mono ?_; rintro e w4 ⟨rfl, hq4⟩; obtain ⟨y0, y1, y2, y3, y4, y5, yz⟩ := box6 (((hq1.alloc _).trans hq3).trans hq4))
        | (go_at_call 13; refine (works_any _).mono ?_; rintro e w9 ⟨rfl, hq9⟩))
      go_ret
      exact ⟨rfl, by repeat (first | exact Q.refl _ | assumption | refine Q.alloc ?_ _ | refine Q.drew ?_ | refine Q.drewN ?_ _ | refine Q.trans ?_ (by assumption))⟩
    · have hne := bne_t g1
      clear g1 hB hE
      go_enter Try.func11, Try.ntmps11
      go_wp2_with (first
        | (go_at_call 20; with_reducible refine (l1 _).mono ?_; rintro e w1 ⟨rfl, hq1⟩; obtain ⟨u0, u1, u2, u3, u4, u5, uz⟩ := box6 hq1)
        | (go_at_call 31; with_reducible refine (k1 _).mono ?_; rintro e w3 ⟨rfl, hq3⟩; obtain ⟨x0, x1, x2, x3, x4, x5, xz⟩ := box6 ((hq1.alloc _).trans hq3))
        | (go_at_call 13; refine (works_any _).mono ?_; rintro e w9 ⟨rfl, hq9⟩))
      go_ret
      exact ⟨rfl, by repeat (first | exact Q.refl _ | assumption | refine Q.alloc ?_ _ | refine Q.drew ?_ | refine Q.drewN ?_ _ | refine Q.trans ?_ (by assumption))⟩
end Go.Proofs.Ytpenjmflkhhdgaa
