/- The walk of the law ZoneSplits. -/
import Derived.Test.YtpenjmflkhhdgaaZonM
namespace Go.Proofs.Ytpenjmflkhhdgaa
open Go.RowKit
set_option linter.unusedVariables false
theorem bdi32 {a : Int} (h : (Lit.int .i32 a).wf = true) : -2147483648 ≤ a ∧ a ≤ 2147483647 := by
  have hmin : IntKind.i32.min = -2147483648 := rfl
  have hmax : IntKind.i32.max = 2147483647 := rfl
  simp only [Lit.wf, Bool.and_eq_true, decide_eq_true_eq] at h; omega
theorem bdu64 {a : Int} (h : (Lit.int .u64 a).wf = true) : 0 ≤ a := by
  have hmin : IntKind.u64.min = 0 := rfl
  simp only [Lit.wf, Bool.and_eq_true, decide_eq_true_eq] at h; omega
theorem zoneSplits_walk (t p n : Int) (wt : (Lit.int .u64 t).wf = true) (wp : (Lit.int .i32 p).wf = true) (wn : (Lit.int .u16 n).wf = true) (w : World) :
    Calls Try.prog 9 #[.int .u64 t, .int .i32 p, .int .u16 n] w fun e w' => e = .returned (.bool true) ∧ Q w w' := by
  have hn := bdu16 wn
  have hp := bdi32 wp
  have ht := bdu64 wt
  obtain ⟨Z, hZ⟩ : ∃ Z, n % 1681 - 840 = Z := ⟨_, rfl⟩
  have hz : Zn.zOk Z := by unfold Zn.zOk; omega
  obtain ⟨A, hA⟩ : ∃ A, t % 253402300800 = A := ⟨_, rfl⟩
  have a1 : 0 ≤ A ∧ A ≤ 253402300799 := by omega
  obtain ⟨R, hR⟩ : ∃ R, p.tmod 259200 = R := ⟨_, rfl⟩
  have r1 : -259200 < R ∧ R < 259200 := by
    have := Int.tmod_lt_of_pos p (show (0 : Int) < 259200 by omega)
    have h2 := Int.tmod_lt_of_pos (-p) (show (0 : Int) < 259200 by omega)
    rw [Int.neg_tmod] at h2
    omega
  clear wt wp wn
  obtain ⟨B, hB⟩ : ∃ B, A + R = B := ⟨_, rfl⟩
  have b1 : -259200 ≤ B ∧ B ≤ 253402559999 := by omega
  by_cases ha : Zn.shOk A Z
  · by_cases hb : Zn.shOk B Z
    · have s1 : Zn.sameE A B Z = 0 := by unfold Zn.sameE; rw [if_pos ha, if_pos hb]
      have s2 : Zn.sameE B A Z = 0 := by unfold Zn.sameE; rw [if_pos ha, if_pos hb]
      obtain ⟨v1, v2⟩ := Cal.date_valid (Cal.day_of_time ha.2.2).1 (Cal.day_of_time ha.2.2).2
      obtain ⟨v3, v4⟩ := Cal.date_valid (Cal.day_of_time hb.2.2).1 (Cal.day_of_time hb.2.2).2
      by_cases hd : (A + 60 * Z) / 86400 = (B + 60 * Z) / 86400
      · have q1 : Zn.sameB A B Z = true := by unfold Zn.sameB; simp [ha, hb, hd]
        have q2 : Zn.sameB B A Z = true := by unfold Zn.sameB; simp [ha, hb, hd]
        have e1 : (Cal.cY (A + 60 * Z) == Cal.cY (B + 60 * Z)) = true := by unfold Cal.cY; rw [hd]; simp
        have e2 : (Cal.cM (A + 60 * Z) == Cal.cM (B + 60 * Z)) = true := by unfold Cal.cM; rw [hd]; simp
        have e3 : (Cal.cD (A + 60 * Z) == Cal.cD (B + 60 * Z)) = true := by unfold Cal.cD; rw [hd]; simp
        clear v1 v2 v3 v4 hd
        go_enter Try.func9, Try.ntmps9
        go_wp2_with (first
          | (go_at_call 20; with_reducible refine (local_ok A Z ha _).mono ?_; rintro e w1 ⟨rfl, hw1⟩)
          | (go_at_call 20; with_reducible refine (local_ok B Z hb _).mono ?_; rintro e w2 ⟨rfl, hw2⟩)
          | (go_at_call 29; with_reducible refine (same_any A B Z _).mono ?_; rw [s1, q1]; rintro e w3 ⟨rfl, hq3⟩)
          | (go_at_call 29; with_reducible refine (same_any B A Z _).mono ?_; rw [s2, q2]; rintro e w4 ⟨rfl, hq4⟩; (try obtain ⟨x0, x1, x2, x3, x4, x5, xz⟩ := box6 (((hw2.alloc _).trans hq3).trans hq4)); (try obtain ⟨y0, y1, y2, y3, y4, y5, yz⟩ := box6 (hq3.trans hq4)))
          | (go_at_call 13; refine (works_any _).mono ?_; rintro e w5 ⟨rfl, hq5⟩))
        go_ret
        exact ⟨rfl, by repeat (first | exact Q.refl _ | assumption | refine Q.alloc ?_ _ | refine Q.drew ?_ | refine Q.trans ?_ (by assumption))⟩
      · have q1 : Zn.sameB A B Z = false := by unfold Zn.sameB; simp [ha, hb, hd]
        have q2 : Zn.sameB B A Z = false := by unfold Zn.sameB; simp [ha, hb, Ne.symm hd]
        have e : (Cal.cY (A + 60 * Z) == Cal.cY (B + 60 * Z) && (Cal.cM (A + 60 * Z) == Cal.cM (B + 60 * Z) && Cal.cD (A + 60 * Z) == Cal.cD (B + 60 * Z))) = false := by
          cases hx : (Cal.cY (A + 60 * Z) == Cal.cY (B + 60 * Z) && (Cal.cM (A + 60 * Z) == Cal.cM (B + 60 * Z) && Cal.cD (A + 60 * Z) == Cal.cD (B + 60 * Z))) with
          | false => rfl
          | true =>
            simp only [Bool.and_eq_true, beq_iff_eq] at hx
            obtain ⟨x1, x2, x3⟩ := hx
            unfold Cal.cY at x1; unfold Cal.cM at x2; unfold Cal.cD at x3
            rw [x1, x2, x3] at v2
            exact absurd (v2.symm.trans v4) hd
        clear v1 v2 v3 v4 hd
        cases e1 : (Cal.cY (A + 60 * Z) == Cal.cY (B + 60 * Z)) with
        | false =>
          go_enter Try.func9, Try.ntmps9
          go_wp2_with (first
          | (go_at_call 20; with_reducible refine (local_ok A Z ha _).mono ?_; rintro e w1 ⟨rfl, hw1⟩)
          | (go_at_call 20; with_reducible refine (local_ok B Z hb _).mono ?_; rintro e w2 ⟨rfl, hw2⟩)
          | (go_at_call 29; with_reducible refine (same_any A B Z _).mono ?_; rw [s1, q1]; rintro e w3 ⟨rfl, hq3⟩)
          | (go_at_call 29; with_reducible refine (same_any B A Z _).mono ?_; rw [s2, q2]; rintro e w4 ⟨rfl, hq4⟩; (try obtain ⟨x0, x1, x2, x3, x4, x5, xz⟩ := box6 (((hw2.alloc _).trans hq3).trans hq4)); (try obtain ⟨y0, y1, y2, y3, y4, y5, yz⟩ := box6 (hq3.trans hq4)))
          | (go_at_call 13; refine (works_any _).mono ?_; rintro e w5 ⟨rfl, hq5⟩))
          go_ret
          exact ⟨rfl, by repeat (first | exact Q.refl _ | assumption | refine Q.alloc ?_ _ | refine Q.drew ?_ | refine Q.trans ?_ (by assumption))⟩
        | true =>
          cases e2 : (Cal.cM (A + 60 * Z) == Cal.cM (B + 60 * Z)) with
          | false =>
            go_enter Try.func9, Try.ntmps9
            go_wp2_with (first
          | (go_at_call 20; with_reducible refine (local_ok A Z ha _).mono ?_; rintro e w1 ⟨rfl, hw1⟩)
          | (go_at_call 20; with_reducible refine (local_ok B Z hb _).mono ?_; rintro e w2 ⟨rfl, hw2⟩)
          | (go_at_call 29; with_reducible refine (same_any A B Z _).mono ?_; rw [s1, q1]; rintro e w3 ⟨rfl, hq3⟩)
          | (go_at_call 29; with_reducible refine (same_any B A Z _).mono ?_; rw [s2, q2]; rintro e w4 ⟨rfl, hq4⟩; (try obtain ⟨x0, x1, x2, x3, x4, x5, xz⟩ := box6 (((hw2.alloc _).trans hq3).trans hq4)); (try obtain ⟨y0, y1, y2, y3, y4, y5, yz⟩ := box6 (hq3.trans hq4)))
          | (go_at_call 13; refine (works_any _).mono ?_; rintro e w5 ⟨rfl, hq5⟩))
            go_ret
            exact ⟨rfl, by repeat (first | exact Q.refl _ | assumption | refine Q.alloc ?_ _ | refine Q.drew ?_ | refine Q.trans ?_ (by assumption))⟩
          | true =>
            have e3 : (Cal.cD (A + 60 * Z) == Cal.cD (B + 60 * Z)) = false := by rw [e1, e2] at e; exact e
            go_enter Try.func9, Try.ntmps9
            go_wp2_with (first
          | (go_at_call 20; with_reducible refine (local_ok A Z ha _).mono ?_; rintro e w1 ⟨rfl, hw1⟩)
          | (go_at_call 20; with_reducible refine (local_ok B Z hb _).mono ?_; rintro e w2 ⟨rfl, hw2⟩)
          | (go_at_call 29; with_reducible refine (same_any A B Z _).mono ?_; rw [s1, q1]; rintro e w3 ⟨rfl, hq3⟩)
          | (go_at_call 29; with_reducible refine (same_any B A Z _).mono ?_; rw [s2, q2]; rintro e w4 ⟨rfl, hq4⟩; (try obtain ⟨x0, x1, x2, x3, x4, x5, xz⟩ := box6 (((hw2.alloc _).trans hq3).trans hq4)); (try obtain ⟨y0, y1, y2, y3, y4, y5, yz⟩ := box6 (hq3.trans hq4)))
          | (go_at_call 13; refine (works_any _).mono ?_; rintro e w5 ⟨rfl, hq5⟩))
            go_ret
            exact ⟨rfl, by repeat (first | exact Q.refl _ | assumption | refine Q.alloc ?_ _ | refine Q.drew ?_ | refine Q.trans ?_ (by assumption))⟩
    · have s1 : Zn.sameE A B Z = 14 := by unfold Zn.sameE; rw [if_pos ha, if_neg hb]; exact sh_e hz hb
      have s2 : Zn.sameE B A Z = 14 := by unfold Zn.sameE; rw [if_neg hb]; exact sh_e hz hb
      have q1 : Zn.sameB A B Z = false := by unfold Zn.sameB; simp [hb]
      have q2 : Zn.sameB B A Z = false := by unfold Zn.sameB; simp [hb]
      have g2 := sh_e hz hb
      go_enter Try.func9, Try.ntmps9
      go_wp2_with (first
          | (go_at_call 20; with_reducible refine (local_ok A Z ha _).mono ?_; rintro e w1 ⟨rfl, hw1⟩)
          | (go_at_call 20; with_reducible refine (local_err B Z hb _).mono ?_; rw [g2]; rintro e w2 ⟨rfl, hw2⟩)
          | (go_at_call 29; with_reducible refine (same_any A B Z _).mono ?_; rw [s1, q1]; rintro e w3 ⟨rfl, hq3⟩)
          | (go_at_call 29; with_reducible refine (same_any B A Z _).mono ?_; rw [s2, q2]; rintro e w4 ⟨rfl, hq4⟩; (try obtain ⟨x0, x1, x2, x3, x4, x5, xz⟩ := box6 (((hw2.alloc _).trans hq3).trans hq4)); (try obtain ⟨y0, y1, y2, y3, y4, y5, yz⟩ := box6 (hq3.trans hq4)))
          | (go_at_call 13; refine (works_any _).mono ?_; rintro e w5 ⟨rfl, hq5⟩))
      go_ret
      exact ⟨rfl, by repeat (first | exact Q.refl _ | assumption | refine Q.alloc ?_ _ | refine Q.drew ?_ | refine Q.trans ?_ (by assumption))⟩
  · have s1 : Zn.sameE A B Z = 14 := by unfold Zn.sameE; rw [if_neg ha]; exact sh_e hz ha
    have s2 : Zn.sameE B A Z = 14 := by
      unfold Zn.sameE
      by_cases hb : Zn.shOk B Z
      · rw [if_pos hb, if_neg ha]; exact sh_e hz ha
      · rw [if_neg hb]; exact sh_e hz hb
    have q1 : Zn.sameB A B Z = false := by unfold Zn.sameB; simp [ha]
    have q2 : Zn.sameB B A Z = false := by unfold Zn.sameB; simp [ha]
    have g1 := sh_e hz ha
    by_cases hb : Zn.shOk B Z
    · go_enter Try.func9, Try.ntmps9
      go_wp2_with (first
          | (go_at_call 20; with_reducible refine (local_err A Z ha _).mono ?_; rw [g1]; rintro e w1 ⟨rfl, hw1⟩)
          | (go_at_call 20; with_reducible refine (local_ok B Z hb _).mono ?_; rintro e w2 ⟨rfl, hw2⟩)
          | (go_at_call 29; with_reducible refine (same_any A B Z _).mono ?_; rw [s1, q1]; rintro e w3 ⟨rfl, hq3⟩)
          | (go_at_call 29; with_reducible refine (same_any B A Z _).mono ?_; rw [s2, q2]; rintro e w4 ⟨rfl, hq4⟩; (try obtain ⟨x0, x1, x2, x3, x4, x5, xz⟩ := box6 (((hw2.alloc _).trans hq3).trans hq4)); (try obtain ⟨y0, y1, y2, y3, y4, y5, yz⟩ := box6 (hq3.trans hq4)))
          | (go_at_call 13; refine (works_any _).mono ?_; rintro e w5 ⟨rfl, hq5⟩))
      go_ret
      exact ⟨rfl, by repeat (first | exact Q.refl _ | assumption | refine Q.alloc ?_ _ | refine Q.drew ?_ | refine Q.trans ?_ (by assumption))⟩
    · have g2 := sh_e hz hb
      go_enter Try.func9, Try.ntmps9
      go_wp2_with (first
          | (go_at_call 20; with_reducible refine (local_err A Z ha _).mono ?_; rw [g1]; rintro e w1 ⟨rfl, hw1⟩)
          | (go_at_call 20; with_reducible refine (local_err B Z hb _).mono ?_; rw [g2]; rintro e w2 ⟨rfl, hw2⟩)
          | (go_at_call 29; with_reducible refine (same_any A B Z _).mono ?_; rw [s1, q1]; rintro e w3 ⟨rfl, hq3⟩)
          | (go_at_call 29; with_reducible refine (same_any B A Z _).mono ?_; rw [s2, q2]; rintro e w4 ⟨rfl, hq4⟩; (try obtain ⟨x0, x1, x2, x3, x4, x5, xz⟩ := box6 (((hw2.alloc _).trans hq3).trans hq4)); (try obtain ⟨y0, y1, y2, y3, y4, y5, yz⟩ := box6 (hq3.trans hq4)))
          | (go_at_call 13; refine (works_any _).mono ?_; rintro e w5 ⟨rfl, hq5⟩))
      go_ret
      exact ⟨rfl, by repeat (first | exact Q.refl _ | assumption | refine Q.alloc ?_ _ | refine Q.drew ?_ | refine Q.trans ?_ (by assumption))⟩
end Go.Proofs.Ytpenjmflkhhdgaa
