/- The walk of the law EveryWalks. -/
import Derived.Test.YtfhplhfgcanfbaaEvS
namespace Go.Proofs.Ytfhplhfgcanfbaa
open Go.RowKit
set_option linter.unusedVariables false
set_option linter.unusedSimpArgs false
theorem bdu16 {a : Int} (h : (Lit.int .u16 a).wf = true) : 0 ≤ a ∧ a ≤ 65535 := by
  have hmin : IntKind.u16.min = 0 := rfl
  have hmax : IntKind.u16.max = 65535 := rfl
  simp only [Lit.wf, Bool.and_eq_true, decide_eq_true_eq] at h; omega
/-- no shared time yet: all that come are at least t -/
def Yet (t k : Int) : Prop := k ≤ t
set_option maxRecDepth 20000 in
set_option maxHeartbeats 4000000 in
theorem everyWalks_walk (a b c d n m : Int) (wa : (Lit.int .u16 a).wf = true) (wb : (Lit.int .u16 b).wf = true) (wc : (Lit.int .u16 c).wf = true) (wd : (Lit.int .u16 d).wf = true) (wn : (Lit.int .u16 n).wf = true) (wm : (Lit.int .u16 m).wf = true) (w : World) :
    Calls Try.prog 8 #[.int .u16 a, .int .u16 b, .int .u16 c, .int .u16 d, .int .u16 n, .int .u16 m] w fun e w' => e = .returned (.bool true) ∧ Q w w' := by
  have ba := bdu16 wa
  have bb := bdu16 wb
  have bc := bdu16 wc
  have bd := bdu16 wd
  have bn := bdu16 wn
  have bm := bdu16 wm
  clear wa wb wc wd wn wm
  obtain ⟨S1, hS1⟩ : ∃ x, a % 301 = x := ⟨_, rfl⟩
  obtain ⟨Q1, hQ1⟩ : ∃ x, b % 40 = x := ⟨_, rfl⟩
  obtain ⟨S2, hS2⟩ : ∃ x, c % 301 = x := ⟨_, rfl⟩
  obtain ⟨Q2, hQ2⟩ : ∃ x, d % 40 = x := ⟨_, rfl⟩
  obtain ⟨C1, hC1⟩ : ∃ x, n % 61 = x := ⟨_, rfl⟩
  obtain ⟨C2, hC2⟩ : ∃ x, m % 61 = x := ⟨_, rfl⟩
  obtain ⟨P1, hP1⟩ : ∃ x, 1 + Q1 = x := ⟨_, rfl⟩
  obtain ⟨P2, hP2⟩ : ∃ x, 1 + Q2 = x := ⟨_, rfl⟩
  have s1 : 0 ≤ S1 ∧ S1 ≤ 300 := by omega
  have s2 : 0 ≤ S2 ∧ S2 ≤ 300 := by omega
  have q1 : 0 ≤ Q1 ∧ Q1 ≤ 39 := by omega
  have q2 : 0 ≤ Q2 ∧ Q2 ≤ 39 := by omega
  have c1 : 0 ≤ C1 ∧ C1 ≤ 60 := by omega
  have c2 : 0 ≤ C2 ∧ C2 ≤ 60 := by omega
  have p1 : 1 ≤ P1 ∧ P1 ≤ 40 := by omega
  have p2 : 1 ≤ P2 ∧ P2 ≤ 40 := by omega
  have o1 : Ev.Ok S1 P1 C1 := by unfold Ev.Ok; omega
  have o2 : Ev.Ok S2 P2 C2 := by unfold Ev.Ok; omega
  obtain ⟨M, hM⟩ : ∃ M, (if S1 < S2 then S2 else S1) = M := ⟨_, rfl⟩
  obtain ⟨PP, hPP⟩ : ∃ x, P1 * P2 = x := ⟨_, rfl⟩
  have pp : 0 ≤ PP ∧ PP ≤ 1600 := by
    rw [← hPP]
    have x := Int.mul_le_mul p1.2 p2.2 (by omega) (by omega)
    have y := Int.mul_nonneg (show 0 ≤ P1 by omega) (show 0 ≤ P2 by omega)
    omega
  have mb : S1 ≤ M ∧ S2 ≤ M ∧ (M = S1 ∨ M = S2) := by rw [← hM]; split <;> omega
  obtain ⟨EN, hEN⟩ : ∃ x, M + PP = x := ⟨_, rfl⟩
  have ok1 := Lib.hid o1
  have ok2 := Lib.hid o2
  rcases meet_split S1 P1 C1 S2 P2 C2 o1 o2 with ⟨t, ta, tb, k1, _, hall⟩ | ⟨k1, _, hall⟩
  · have soon := Ev.meet_soon o1 o2 ta tb hall
    rw [hPP] at soon
    have t0 := (is_time_ok o1 ta).1
    have tE : t ≤ EN := by omega
    have TA := Lib.hid ta
    have TB := Lib.hid tb
    clear o1 o2 soon ta tb
    by_cases hmx : S1 < S2
    all_goals
      first | (rw [if_pos hmx] at hM; subst hM) | (rw [if_neg hmx] at hM; subst hM)
      go_enter Try.func8, Try.ntmps8
      go_wp2_with (first
        | (go_at_call 17; refine (k1 _).mono ?_; rintro e w1 ⟨rfl, hq1⟩; obtain ⟨x1, x2, x3⟩ := qcell hq1; have hz1 : w.heap.size < w1.heap.size := (by have := hq1.size; simp at this; omega); have hy1 : w.heap.size + 1 < w1.heap.size := (by have := hq1.size; simp at this; omega)))
      go_loopw [19] (fun i wr => ∃ k : Int, 0 ≤ k ∧ k ≤ EN + 1 ∧ i = .int .i64 k ∧ k ≤ t ∧ Q w wr ∧ EvAt wr w.heap.size S1 P1 C1 ∧ EvAt wr (w.heap.size + 1) S2 P2 C2) (fun i _ => (EN + 1 - intOf i).toNat)
      case atStart =>
        obtain ⟨u0, u1, u2⟩ := box3b hq1
        have hq : Q w w1 := (((Q.refl w).alloc _).alloc _).trans hq1
        have b2 : EvAt w1 (w.heap.size + 1) S2 P2 C2 := ⟨(x1 _ 0 (by simp)).trans (by simp), (x1 _ 1 (by simp)).trans (by simp), (x1 _ 2 (by simp)).trans (by simp), hy1⟩
        exact ⟨0, by omega, by omega, rfl, t0, hq, ⟨u0, u1, u2, hz1⟩, b2⟩
      case round =>
        obtain ⟨k, k0, k2, rfl, hnot, hqr, hat, hbt⟩ := hrel
        obtain ⟨wo, hwo⟩ : ∃ n, w.heap.size = n := ⟨_, rfl⟩
        rw [hwo] at hat hbt ⊢
        have HQR := Lib.hid hqr
        have HWO := Lib.hid hwo
        clear hq1 x1 x2 x3 hz1 hy1 hwo hqr
        have HAT := Lib.hid hat
        have HBT := Lib.hid hbt
        have HNOT := Lib.hid hnot
        obtain ⟨a0, a1, a2, a3⟩ := hat
        obtain ⟨b0, b1, b2, b3⟩ := hbt
        have H := Lib.hid hall
        by_cases hle : k ≤ EN
        · have kt : Ev.TOk k := by unfold Ev.TOk; omega
          have k3 := fun w2 => is_ok S1 P1 C1 k ok1.out kt w2
          have k4 := fun w2 => is_ok S2 P2 C2 k ok2.out kt w2
          obtain ⟨I1, hI1⟩ : ∃ I, Ev.isB S1 P1 C1 k = I := ⟨_, rfl⟩
          obtain ⟨I2, hI2⟩ : ∃ I, Ev.isB S2 P2 C2 k = I := ⟨_, rfl⟩
          rw [hI1] at k3
          rw [hI2] at k4
          have hsy : ¬ (S1 = S2 ∧ P1 = P2 ∧ C1 = C2) ∨ I1 = I2 := by
            by_cases g : S1 = S2 ∧ P1 = P2 ∧ C1 = C2
            · obtain ⟨rfl, rfl, rfl⟩ := g; exact Or.inr (hI1.symm.trans hI2)
            · exact Or.inl g
          clear hsy
          have NE := Lib.hid (show k = t → I1 = true ∧ I2 = true from fun e => ⟨by rw [← hI1, e]; exact TA.out, by rw [← hI2, e]; exact TB.out⟩)
          have BOTH := Lib.hid (hall k)
          rw [hI1, hI2] at BOTH
          clear hall hnot kt hI1 hI2
          cases I1 <;> cases I2
          · skip
            go_wp2_with (first
              | (go_at_call 21; with_reducible refine (k3 _).mono ?_; rintro e w3 ⟨rfl, hq3⟩; obtain ⟨x13, x23, x33⟩ := qcell hq3; have hz3 : wo < w3.heap.size := (by have := hq3.size; (try simp at this); omega); have hy3 : wo + 1 < w3.heap.size := (by have := hq3.size; (try simp at this); omega))
              | (go_at_call 21; with_reducible refine (k4 _).mono ?_; rintro e w4 ⟨rfl, hq4⟩; obtain ⟨x14, x24, x34⟩ := qcell hq4; have hz4 : wo < w4.heap.size := (by have := hq4.size; (try simp at this); omega); have hy4 : wo + 1 < w4.heap.size := (by have := hq4.size; (try simp at this); omega))
              | (go_at_call 16; refine (works_any _).mono ?_; rintro e w99 ⟨rfl, hq99⟩))
            go_roundw
            case rel => exact ⟨k + 1, by omega, by omega, rfl, (by have := HNOT.out; have hkt : k ≠ t := (fun e => by have := NE.out e; simp at this); omega), HQR.out.trans (by repeat (first | exact Q.refl _ | assumption | refine Q.alloc ?_ _ | refine Q.drew ?_ | refine Q.drewN ?_ _ | refine Q.trans ?_ (by assumption))), HAT.out.later (by repeat (first | exact Q.refl _ | assumption | refine Q.alloc ?_ _ | refine Q.drew ?_ | refine Q.drewN ?_ _ | refine Q.trans ?_ (by assumption))), HBT.out.later (by repeat (first | exact Q.refl _ | assumption | refine Q.alloc ?_ _ | refine Q.drew ?_ | refine Q.drewN ?_ _ | refine Q.trans ?_ (by assumption)))⟩
            case measure => simp [intOf]; omega
          · skip
            go_wp2_with (first
              | (go_at_call 21; with_reducible refine (k3 _).mono ?_; rintro e w3 ⟨rfl, hq3⟩; obtain ⟨x13, x23, x33⟩ := qcell hq3; have hz3 : wo < w3.heap.size := (by have := hq3.size; (try simp at this); omega); have hy3 : wo + 1 < w3.heap.size := (by have := hq3.size; (try simp at this); omega))
              | (go_at_call 21; with_reducible refine (k4 _).mono ?_; rintro e w4 ⟨rfl, hq4⟩; obtain ⟨x14, x24, x34⟩ := qcell hq4; have hz4 : wo < w4.heap.size := (by have := hq4.size; (try simp at this); omega); have hy4 : wo + 1 < w4.heap.size := (by have := hq4.size; (try simp at this); omega))
              | (go_at_call 16; refine (works_any _).mono ?_; rintro e w99 ⟨rfl, hq99⟩))
            go_roundw
            case rel => exact ⟨k + 1, by omega, by omega, rfl, (by have := HNOT.out; have hkt : k ≠ t := (fun e => by have := NE.out e; simp at this); omega), HQR.out.trans (by repeat (first | exact Q.refl _ | assumption | refine Q.alloc ?_ _ | refine Q.drew ?_ | refine Q.drewN ?_ _ | refine Q.trans ?_ (by assumption))), HAT.out.later (by repeat (first | exact Q.refl _ | assumption | refine Q.alloc ?_ _ | refine Q.drew ?_ | refine Q.drewN ?_ _ | refine Q.trans ?_ (by assumption))), HBT.out.later (by repeat (first | exact Q.refl _ | assumption | refine Q.alloc ?_ _ | refine Q.drew ?_ | refine Q.drewN ?_ _ | refine Q.trans ?_ (by assumption)))⟩
            case measure => simp [intOf]; omega
          · skip
            go_wp2_with (first
              | (go_at_call 21; with_reducible refine (k3 _).mono ?_; rintro e w3 ⟨rfl, hq3⟩; obtain ⟨x13, x23, x33⟩ := qcell hq3; have hz3 : wo < w3.heap.size := (by have := hq3.size; (try simp at this); omega); have hy3 : wo + 1 < w3.heap.size := (by have := hq3.size; (try simp at this); omega))
              | (go_at_call 21; with_reducible refine (k4 _).mono ?_; rintro e w4 ⟨rfl, hq4⟩; obtain ⟨x14, x24, x34⟩ := qcell hq4; have hz4 : wo < w4.heap.size := (by have := hq4.size; (try simp at this); omega); have hy4 : wo + 1 < w4.heap.size := (by have := hq4.size; (try simp at this); omega))
              | (go_at_call 16; refine (works_any _).mono ?_; rintro e w99 ⟨rfl, hq99⟩))
            go_roundw
            case rel => exact ⟨k + 1, by omega, by omega, rfl, (by have := HNOT.out; have hkt : k ≠ t := (fun e => by have := NE.out e; simp at this); omega), HQR.out.trans (by repeat (first | exact Q.refl _ | assumption | refine Q.alloc ?_ _ | refine Q.drew ?_ | refine Q.drewN ?_ _ | refine Q.trans ?_ (by assumption))), HAT.out.later (by repeat (first | exact Q.refl _ | assumption | refine Q.alloc ?_ _ | refine Q.drew ?_ | refine Q.drewN ?_ _ | refine Q.trans ?_ (by assumption))), HBT.out.later (by repeat (first | exact Q.refl _ | assumption | refine Q.alloc ?_ _ | refine Q.drew ?_ | refine Q.drewN ?_ _ | refine Q.trans ?_ (by assumption)))⟩
            case measure => simp [intOf]; omega
          · have hkt : t ≤ k := BOTH.out rfl rfl
            obtain rfl : t = k := by have := HNOT.out; omega
            clear k1
            go_wp2_with (first
              | (go_at_call 21; with_reducible refine (k3 _).mono ?_; rintro e w3 ⟨rfl, hq3⟩; obtain ⟨x13, x23, x33⟩ := qcell hq3; have hz3 : wo < w3.heap.size := (by have := hq3.size; (try simp at this); omega); have hy3 : wo + 1 < w3.heap.size := (by have := hq3.size; (try simp at this); omega))
              | (go_at_call 21; with_reducible refine (k4 _).mono ?_; rintro e w4 ⟨rfl, hq4⟩; obtain ⟨x14, x24, x34⟩ := qcell hq4; have hz4 : wo < w4.heap.size := (by have := hq4.size; (try simp at this); omega); have hy4 : wo + 1 < w4.heap.size := (by have := hq4.size; (try simp at this); omega))
              | (go_at_call 16; refine (works_any _).mono ?_; rintro e w99 ⟨rfl, hq99⟩))
            go_ret
            exact ⟨rfl, HQR.out.trans (by repeat (first | exact Q.refl _ | assumption | refine Q.alloc ?_ _ | refine Q.drew ?_ | refine Q.drewN ?_ _ | refine Q.trans ?_ (by assumption)))⟩
        · have := HNOT.out
          omega
  · clear o1 o2
    by_cases hmx : S1 < S2
    all_goals
      first | (rw [if_pos hmx] at hM; subst hM) | (rw [if_neg hmx] at hM; subst hM)
      go_enter Try.func8, Try.ntmps8
      go_wp2_with (first
        | (go_at_call 17; refine (k1 _).mono ?_; rintro e w1 ⟨rfl, hq1⟩; obtain ⟨x1, x2, x3⟩ := qcell hq1; have hz1 : w.heap.size < w1.heap.size := (by have := hq1.size; simp at this; omega); have hy1 : w.heap.size + 1 < w1.heap.size := (by have := hq1.size; simp at this; omega)))
      go_loopw [19] (fun i wr => ∃ k : Int, 0 ≤ k ∧ k ≤ EN + 1 ∧ i = .int .i64 k ∧ True ∧ Q w wr ∧ EvAt wr w.heap.size S1 P1 C1 ∧ EvAt wr (w.heap.size + 1) S2 P2 C2) (fun i _ => (EN + 1 - intOf i).toNat)
      case atStart =>
        obtain ⟨u0, u1, u2⟩ := box3b hq1
        have hq : Q w w1 := (((Q.refl w).alloc _).alloc _).trans hq1
        have b2 : EvAt w1 (w.heap.size + 1) S2 P2 C2 := ⟨(x1 _ 0 (by simp)).trans (by simp), (x1 _ 1 (by simp)).trans (by simp), (x1 _ 2 (by simp)).trans (by simp), hy1⟩
        exact ⟨0, by omega, by omega, rfl, trivial, hq, ⟨u0, u1, u2, hz1⟩, b2⟩
      case round =>
        obtain ⟨k, k0, k2, rfl, hnot, hqr, hat, hbt⟩ := hrel
        obtain ⟨wo, hwo⟩ : ∃ n, w.heap.size = n := ⟨_, rfl⟩
        rw [hwo] at hat hbt ⊢
        have HQR := Lib.hid hqr
        have HWO := Lib.hid hwo
        clear hq1 x1 x2 x3 hz1 hy1 hwo hqr
        have HAT := Lib.hid hat
        have HBT := Lib.hid hbt
        have HNOT := Lib.hid hnot
        obtain ⟨a0, a1, a2, a3⟩ := hat
        obtain ⟨b0, b1, b2, b3⟩ := hbt
        have H := Lib.hid hall
        by_cases hle : k ≤ EN
        · have kt : Ev.TOk k := by unfold Ev.TOk; omega
          have k3 := fun w2 => is_ok S1 P1 C1 k ok1.out kt w2
          have k4 := fun w2 => is_ok S2 P2 C2 k ok2.out kt w2
          obtain ⟨I1, hI1⟩ : ∃ I, Ev.isB S1 P1 C1 k = I := ⟨_, rfl⟩
          obtain ⟨I2, hI2⟩ : ∃ I, Ev.isB S2 P2 C2 k = I := ⟨_, rfl⟩
          rw [hI1] at k3
          rw [hI2] at k4
          have hsy : ¬ (S1 = S2 ∧ P1 = P2 ∧ C1 = C2) ∨ I1 = I2 := by
            by_cases g : S1 = S2 ∧ P1 = P2 ∧ C1 = C2
            · obtain ⟨rfl, rfl, rfl⟩ := g; exact Or.inr (hI1.symm.trans hI2)
            · exact Or.inl g
          clear hsy
          have BOTH := Lib.hid (hall k)
          rw [hI1, hI2] at BOTH
          clear hall hnot kt hI1 hI2
          cases I1 <;> cases I2
          · skip
            go_wp2_with (first
              | (go_at_call 21; with_reducible refine (k3 _).mono ?_; rintro e w3 ⟨rfl, hq3⟩; obtain ⟨x13, x23, x33⟩ := qcell hq3; have hz3 : wo < w3.heap.size := (by have := hq3.size; (try simp at this); omega); have hy3 : wo + 1 < w3.heap.size := (by have := hq3.size; (try simp at this); omega))
              | (go_at_call 21; with_reducible refine (k4 _).mono ?_; rintro e w4 ⟨rfl, hq4⟩; obtain ⟨x14, x24, x34⟩ := qcell hq4; have hz4 : wo < w4.heap.size := (by have := hq4.size; (try simp at this); omega); have hy4 : wo + 1 < w4.heap.size := (by have := hq4.size; (try simp at this); omega))
              | (go_at_call 16; refine (works_any _).mono ?_; rintro e w99 ⟨rfl, hq99⟩))
            go_roundw
            case rel => exact ⟨k + 1, by omega, by omega, rfl, trivial, HQR.out.trans (by repeat (first | exact Q.refl _ | assumption | refine Q.alloc ?_ _ | refine Q.drew ?_ | refine Q.drewN ?_ _ | refine Q.trans ?_ (by assumption))), HAT.out.later (by repeat (first | exact Q.refl _ | assumption | refine Q.alloc ?_ _ | refine Q.drew ?_ | refine Q.drewN ?_ _ | refine Q.trans ?_ (by assumption))), HBT.out.later (by repeat (first | exact Q.refl _ | assumption | refine Q.alloc ?_ _ | refine Q.drew ?_ | refine Q.drewN ?_ _ | refine Q.trans ?_ (by assumption)))⟩
            case measure => simp [intOf]; omega
          · skip
            go_wp2_with (first
              | (go_at_call 21; with_reducible refine (k3 _).mono ?_; rintro e w3 ⟨rfl, hq3⟩; obtain ⟨x13, x23, x33⟩ := qcell hq3; have hz3 : wo < w3.heap.size := (by have := hq3.size; (try simp at this); omega); have hy3 : wo + 1 < w3.heap.size := (by have := hq3.size; (try simp at this); omega))
              | (go_at_call 21; with_reducible refine (k4 _).mono ?_; rintro e w4 ⟨rfl, hq4⟩; obtain ⟨x14, x24, x34⟩ := qcell hq4; have hz4 : wo < w4.heap.size := (by have := hq4.size; (try simp at this); omega); have hy4 : wo + 1 < w4.heap.size := (by have := hq4.size; (try simp at this); omega))
              | (go_at_call 16; refine (works_any _).mono ?_; rintro e w99 ⟨rfl, hq99⟩))
            go_roundw
            case rel => exact ⟨k + 1, by omega, by omega, rfl, trivial, HQR.out.trans (by repeat (first | exact Q.refl _ | assumption | refine Q.alloc ?_ _ | refine Q.drew ?_ | refine Q.drewN ?_ _ | refine Q.trans ?_ (by assumption))), HAT.out.later (by repeat (first | exact Q.refl _ | assumption | refine Q.alloc ?_ _ | refine Q.drew ?_ | refine Q.drewN ?_ _ | refine Q.trans ?_ (by assumption))), HBT.out.later (by repeat (first | exact Q.refl _ | assumption | refine Q.alloc ?_ _ | refine Q.drew ?_ | refine Q.drewN ?_ _ | refine Q.trans ?_ (by assumption)))⟩
            case measure => simp [intOf]; omega
          · skip
            go_wp2_with (first
              | (go_at_call 21; with_reducible refine (k3 _).mono ?_; rintro e w3 ⟨rfl, hq3⟩; obtain ⟨x13, x23, x33⟩ := qcell hq3; have hz3 : wo < w3.heap.size := (by have := hq3.size; (try simp at this); omega); have hy3 : wo + 1 < w3.heap.size := (by have := hq3.size; (try simp at this); omega))
              | (go_at_call 21; with_reducible refine (k4 _).mono ?_; rintro e w4 ⟨rfl, hq4⟩; obtain ⟨x14, x24, x34⟩ := qcell hq4; have hz4 : wo < w4.heap.size := (by have := hq4.size; (try simp at this); omega); have hy4 : wo + 1 < w4.heap.size := (by have := hq4.size; (try simp at this); omega))
              | (go_at_call 16; refine (works_any _).mono ?_; rintro e w99 ⟨rfl, hq99⟩))
            go_roundw
            case rel => exact ⟨k + 1, by omega, by omega, rfl, trivial, HQR.out.trans (by repeat (first | exact Q.refl _ | assumption | refine Q.alloc ?_ _ | refine Q.drew ?_ | refine Q.drewN ?_ _ | refine Q.trans ?_ (by assumption))), HAT.out.later (by repeat (first | exact Q.refl _ | assumption | refine Q.alloc ?_ _ | refine Q.drew ?_ | refine Q.drewN ?_ _ | refine Q.trans ?_ (by assumption))), HBT.out.later (by repeat (first | exact Q.refl _ | assumption | refine Q.alloc ?_ _ | refine Q.drew ?_ | refine Q.drewN ?_ _ | refine Q.trans ?_ (by assumption)))⟩
            case measure => simp [intOf]; omega
          · exact (BOTH.out rfl rfl).elim
        · obtain rfl : k = EN + 1 := by omega
          clear hall hnot k1
          go_wp2_with (first
            | (go_at_call 16; refine (works_any _).mono ?_; rintro e w99 ⟨rfl, hq99⟩))
          go_ret
          exact ⟨rfl, HQR.out.trans (by repeat (first | exact Q.refl _ | assumption | refine Q.alloc ?_ _ | refine Q.drew ?_ | refine Q.drewN ?_ _ | refine Q.trans ?_ (by assumption)))⟩
end Go.Proofs.Ytfhplhfgcanfbaa
