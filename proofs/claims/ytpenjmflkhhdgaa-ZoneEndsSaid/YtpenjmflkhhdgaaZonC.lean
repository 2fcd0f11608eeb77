/- The contracts of zone's and the document's Same and Back. -/
import Derived.Test.YtpenjmflkhhdgaaZonB
namespace Zn
def backV (y m d h i s z : Int) : Int := if zOk z ∧ Cal.Good y m d h i s ∧ Cal.timeOk (Cal.secs y m d h i s - 60 * z) then Cal.secs y m d h i s - 60 * z else 0
def backE (y m d h i s z : Int) : Int := if zOk z ∧ Cal.Good y m d h i s then (if Cal.timeOk (Cal.secs y m d h i s - 60 * z) then 0 else 14) else 2
def sameB (a b z : Int) : Bool := decide (shOk a z) && (decide (shOk b z) && ((a + 60 * z) / 86400 == (b + 60 * z) / 86400))
def sameE (a b z : Int) : Int := if shOk a z then (if shOk b z then 0 else shE b z) else shE a z
end Zn
namespace Go.Proofs.Ytpenjmflkhhdgaa
open Go.RowKit
set_option linter.unusedVariables false
theorem idx0 (a b : Int) (w : World) : (Instr.index 61 (.agg #[.int .i64 a, .int .i64 b]) (.int .i64 0)).run Try.prog w = .ok (.int .i64 a) w := by kernel_rfl
theorem idx1 (a b : Int) (w : World) : (Instr.index 61 (.agg #[.int .i64 a, .int .i64 b]) (.int .i64 1)).run Try.prog w = .ok (.int .i64 b) w := by kernel_rfl
theorem same_ok (a b z : Int) (h : Zn.shOk a z) (h' : Zn.shOk b z) (r : Bool) (hr : ((a + 60 * z) / 86400 == (b + 60 * z) / 86400) = r) (w : World) :
    Calls Try.prog 29 #[.int .i64 a, .int .i64 b, .int .i64 z] w fun e w' => e = .returned (.tuple #[.bool r, .int .i64 0]) ∧ Q w w' := by
  have i0 := idx0 a b
  have i1 := idx1 a b
  have x1 := h.2.2
  have x2 := h'.2.2
  unfold Cal.timeOk at x1 x2
  go_enter Try.func29, Try.ntmps29
  go_wp2_with fail
  refine wp_loop_rounds 3 ?_; rw [rounds_succ]
  go_wp2_with (first
    | (go_at_call 35; (with_reducible refine (shown_ok a z h _).mono ?_); rintro e w1 ⟨rfl, rfl⟩)
    | (go_at_call 35; (with_reducible refine (shown_ok b z h' _).mono ?_); rintro e w1 ⟨rfl, rfl⟩))
  rw [rounds_succ]
  go_wp2_with (first
    | (go_at_call 35; (with_reducible refine (shown_ok a z h _).mono ?_); rintro e w1 ⟨rfl, rfl⟩)
    | (go_at_call 35; (with_reducible refine (shown_ok b z h' _).mono ?_); rintro e w1 ⟨rfl, rfl⟩))
  rw [rounds_succ]
  go_wp2_with fail
  go_ret2
  exact ⟨rfl, by repeat (first | exact Q.refl _ | refine Q.alloc ?_ _)⟩
theorem same_err1 (a b z : Int) (h : ¬ Zn.shOk a z) (w : World) :
    Calls Try.prog 29 #[.int .i64 a, .int .i64 b, .int .i64 z] w fun e w' => e = .returned (.tuple #[.bool false, .int .i64 (Zn.shE a z)]) ∧ Q w w' := by
  have i0 := idx0 a b
  have hne := bne_t (Zn.shE_ne h)
  go_enter Try.func29, Try.ntmps29
  go_wp2_with fail
  refine wp_loop_rounds 3 ?_; rw [rounds_succ]
  go_wp2_with (go_at_call 35; refine (shown_err a z h _).mono ?_; rintro e w1 ⟨rfl, rfl⟩)
  go_ret2
  exact ⟨rfl, by repeat (first | exact Q.refl _ | refine Q.alloc ?_ _)⟩
theorem same_err2 (a b z : Int) (h : Zn.shOk a z) (h' : ¬ Zn.shOk b z) (w : World) :
    Calls Try.prog 29 #[.int .i64 a, .int .i64 b, .int .i64 z] w fun e w' => e = .returned (.tuple #[.bool false, .int .i64 (Zn.shE b z)]) ∧ Q w w' := by
  have i0 := idx0 a b
  have i1 := idx1 a b
  have x1 := h.2.2
  unfold Cal.timeOk at x1
  have hne := bne_t (Zn.shE_ne h')
  go_enter Try.func29, Try.ntmps29
  go_wp2_with fail
  refine wp_loop_rounds 3 ?_; rw [rounds_succ]
  go_wp2_with (go_at_call 35; (with_reducible refine (shown_ok a z h _).mono ?_); rintro e w1 ⟨rfl, rfl⟩)
  rw [rounds_succ]
  go_wp2_with (go_at_call 35; (with_reducible refine (shown_err b z h' _).mono ?_); rintro e w1 ⟨rfl, rfl⟩)
  go_ret2
  exact ⟨rfl, by repeat (first | exact Q.refl _ | refine Q.alloc ?_ _)⟩
theorem same_any (a b z : Int) (w : World) :
    Calls Try.prog 29 #[.int .i64 a, .int .i64 b, .int .i64 z] w fun e w' => e = .returned (.tuple #[.bool (Zn.sameB a b z), .int .i64 (Zn.sameE a b z)]) ∧ Q w w' := by
  unfold Zn.sameB Zn.sameE
  by_cases h : Zn.shOk a z
  · by_cases h' : Zn.shOk b z
    · rw [decide_eq_true h, decide_eq_true h', if_pos h, if_pos h']; exact same_ok a b z h h' _ rfl w
    · rw [decide_eq_true h, decide_eq_false h', if_pos h, if_neg h']; exact same_err2 a b z h h' w
  · rw [decide_eq_false h, if_neg h]; exact same_err1 a b z h w
theorem rsame_any (a b z : Int) (w : World) :
    Calls Try.prog 30 #[.int .i64 a, .int .i64 b, .int .i64 z] w fun e w' => e = .returned (.tuple #[.bool (Zn.sameB a b z), .int .i64 (Zn.sameE a b z)]) ∧ w = w' := by
  unfold Zn.sameB Zn.sameE
  by_cases h : Zn.shOk a z
  · by_cases h' : Zn.shOk b z
    · rw [decide_eq_true h, decide_eq_true h', if_pos h, if_pos h']
      have x1 := h.2.2
      have x2 := h'.2.2
      unfold Cal.timeOk at x1 x2
      simp only [Bool.true_and]
      go_enter Try.func30, Try.ntmps30
      go_wp2_with (first
        | (go_at_call 36; (with_reducible refine (rshown_ok a z h _).mono ?_); rintro e w1 ⟨rfl, rfl⟩)
        | (go_at_call 36; (with_reducible refine (rshown_ok b z h' _).mono ?_); rintro e w1 ⟨rfl, rfl⟩))
      go_ret2
      exact ⟨rfl, rfl⟩
    · rw [decide_eq_true h, decide_eq_false h', if_pos h, if_neg h']
      have hne := bne_t (Zn.shE_ne h')
      go_enter Try.func30, Try.ntmps30
      go_wp2_with (first
        | (go_at_call 36; (with_reducible refine (rshown_ok a z h _).mono ?_); rintro e w1 ⟨rfl, rfl⟩)
        | (go_at_call 36; (with_reducible refine (rshown_err b z h' _).mono ?_); rintro e w1 ⟨rfl, rfl⟩))
      go_ret2
      exact ⟨rfl, rfl⟩
  · rw [decide_eq_false h, if_neg h]
    have hne := bne_t (Zn.shE_ne h)
    go_enter Try.func30, Try.ntmps30
    go_wp2_with (go_at_call 36; (with_reducible refine (rshown_err a z h _).mono ?_); rintro e w1 ⟨rfl, rfl⟩)
    go_ret2
    exact ⟨rfl, rfl⟩
set_option maxHeartbeats 1000000 in
theorem back_any (y m d h i s z : Int) (b1 : -9223372036854775808 ≤ h ∧ h ≤ 9223372036854775807) (b2 : -9223372036854775808 ≤ i ∧ i ≤ 9223372036854775807) (b3 : -9223372036854775808 ≤ s ∧ s ≤ 9223372036854775807) (w : World) :
    Calls Try.prog 31 #[.agg #[.int .i64 y, .int .i64 m, .int .i64 d, .int .i64 h, .int .i64 i, .int .i64 s], .int .i64 z] w fun e w' => e = .returned (.tuple #[.int .i64 (Zn.backV y m d h i s z), .int .i64 (Zn.backE y m d h i s z)]) ∧ Q w w' := by
  unfold Zn.backV Zn.backE
  by_cases hz : Zn.zOk z
  · by_cases g : Cal.Good y m d h i s
    · rw [if_pos (c := Zn.zOk z ∧ Cal.Good y m d h i s) ⟨hz, g⟩]
      have hr := (Cal.secs_range g).1
      have hr' := hr
      unfold Cal.timeOk at hr'
      have hz' := hz
      unfold Zn.zOk at hz'
      obtain ⟨T, hT⟩ : ∃ T, Cal.secs y m d h i s = T := ⟨_, rfl⟩
      rw [hT] at hr' ⊢
      by_cases ht : Cal.timeOk (T - 60 * z)
      · rw [if_pos ⟨hz, g, ht⟩, if_pos ht]
        have ht' := ht
        unfold Cal.timeOk at ht'
        go_enter Try.func31, Try.ntmps31
        go_wp2_with (first
          | (go_at_call 18; refine (check_ok _ hz _).mono ?_; rintro e w1 ⟨rfl, rfl⟩)
          | (go_at_call 41; refine (time_good _ _ _ _ _ _ g _).mono ?_; rintro e w2 ⟨rfl, hq2⟩))
        go_ret2
        exact ⟨rfl, ((Q.refl w).alloc _).trans hq2⟩
      · rw [if_neg (by rintro ⟨_, _, hc⟩; exact ht hc), if_neg ht]
        unfold Cal.timeOk at ht
        by_cases h1 : T - 60 * z < 0
        · have hbad : ¬ Cal.timeOk (T - 60 * z) := by unfold Cal.timeOk; omega
          clear ht
          go_enter Try.func31, Try.ntmps31
          go_wp2_with (first
            | (go_at_call 18; refine (check_ok _ hz _).mono ?_; rintro e w1 ⟨rfl, rfl⟩)
            | (go_at_call 41; refine (time_good _ _ _ _ _ _ g _).mono ?_; rintro e w2 ⟨rfl, hq2⟩))
          go_ret2
          exact ⟨rfl, ((Q.refl w).alloc _).trans hq2⟩
        · have h2 : 253402300799 < T - 60 * z := by omega
          have hbad : ¬ Cal.timeOk (T - 60 * z) := by unfold Cal.timeOk; omega
          clear ht
          go_enter Try.func31, Try.ntmps31
          go_wp2_with (first
            | (go_at_call 18; refine (check_ok _ hz _).mono ?_; rintro e w1 ⟨rfl, rfl⟩)
            | (go_at_call 41; refine (time_good _ _ _ _ _ _ g _).mono ?_; rintro e w2 ⟨rfl, hq2⟩))
          go_ret2
          exact ⟨rfl, ((Q.refl w).alloc _).trans hq2⟩
    · rw [if_neg (by rintro ⟨_, hc, _⟩; exact g hc), if_neg (by rintro ⟨_, hc⟩; exact g hc)]
      go_enter Try.func31, Try.ntmps31
      go_wp2_with (first
        | (go_at_call 18; refine (check_ok _ hz _).mono ?_; rintro e w1 ⟨rfl, rfl⟩)
        | (go_at_call 41; refine (time_bad _ _ _ _ _ _ (by omega) (by omega) (by omega) g _).mono ?_; rintro e w2 ⟨rfl, hq2⟩))
      go_ret2
      exact ⟨rfl, ((Q.refl w).alloc _).trans hq2⟩
  · rw [if_neg (by rintro ⟨hc, _⟩; exact hz hc), if_neg (by rintro ⟨hc, _⟩; exact hz hc)]
    go_enter Try.func31, Try.ntmps31
    go_wp2_with (go_at_call 18; refine (check_bad _ hz _).mono ?_; rintro e w1 ⟨rfl, rfl⟩)
    go_ret2
    exact ⟨rfl, (Q.refl w).alloc _⟩
set_option maxHeartbeats 1000000 in
theorem rback_any (y m d h i s z : Int) (b1 : -9223372036854775808 ≤ h ∧ h ≤ 9223372036854775807) (b2 : -9223372036854775808 ≤ i ∧ i ≤ 9223372036854775807) (b3 : -9223372036854775808 ≤ s ∧ s ≤ 9223372036854775807) (w : World) :
    Calls Try.prog 32 #[.agg #[.int .i64 y, .int .i64 m, .int .i64 d, .int .i64 h, .int .i64 i, .int .i64 s], .int .i64 z] w fun e w' => e = .returned (.tuple #[.int .i64 (Zn.backV y m d h i s z), .int .i64 (Zn.backE y m d h i s z)]) ∧ Q w w' := by
  unfold Zn.backV Zn.backE
  by_cases hz : Zn.zOk z
  · by_cases g : Cal.Good y m d h i s
    · rw [if_pos (c := Zn.zOk z ∧ Cal.Good y m d h i s) ⟨hz, g⟩]
      have hr := (Cal.secs_range g).1
      have hr' := hr
      unfold Cal.timeOk at hr'
      have hz' := hz
      unfold Zn.zOk at hz'
      obtain ⟨T, hT⟩ : ∃ T, Cal.secs y m d h i s = T := ⟨_, rfl⟩
      rw [hT] at hr' ⊢
      by_cases ht : Cal.timeOk (T - 60 * z)
      · rw [if_pos ⟨hz, g, ht⟩, if_pos ht]
        have ht' := ht
        unfold Cal.timeOk at ht'
        go_enter Try.func32, Try.ntmps32
        go_wp2_with (first
          | (go_at_call 19; refine (rcheck_ok _ hz _).mono ?_; rintro e w1 ⟨rfl, rfl⟩)
          | (go_at_call 42; refine (rtime_good _ _ _ _ _ _ g _).mono ?_; rintro e w2 ⟨rfl, hq2⟩)
          | (go_at_call 43; refine (rvalid_good _ ht _).mono ?_; rintro e w1 ⟨rfl, rfl⟩))
        go_ret2
        exact ⟨rfl, ((Q.refl w).alloc _).trans hq2⟩
      · rw [if_neg (by rintro ⟨_, _, hc⟩; exact ht hc), if_neg ht]
        unfold Cal.timeOk at ht
        by_cases h1 : T - 60 * z < 0
        · have hbad : ¬ Cal.timeOk (T - 60 * z) := by unfold Cal.timeOk; omega
          clear ht
          go_enter Try.func32, Try.ntmps32
          go_wp2_with (first
            | (go_at_call 19; refine (rcheck_ok _ hz _).mono ?_; rintro e w1 ⟨rfl, rfl⟩)
            | (go_at_call 42; refine (rtime_good _ _ _ _ _ _ g _).mono ?_; rintro e w2 ⟨rfl, hq2⟩)
            | (go_at_call 43; refine (rvalid_bad _ hbad _).mono ?_; rintro e w1 ⟨rfl, rfl⟩))
          go_ret2
          exact ⟨rfl, ((Q.refl w).alloc _).trans hq2⟩
        · have h2 : 253402300799 < T - 60 * z := by omega
          have hbad : ¬ Cal.timeOk (T - 60 * z) := by unfold Cal.timeOk; omega
          clear ht
          go_enter Try.func32, Try.ntmps32
          go_wp2_with (first
            | (go_at_call 19; refine (rcheck_ok _ hz _).mono ?_; rintro e w1 ⟨rfl, rfl⟩)
            | (go_at_call 42; refine (rtime_good _ _ _ _ _ _ g _).mono ?_; rintro e w2 ⟨rfl, hq2⟩)
            | (go_at_call 43; refine (rvalid_bad _ hbad _).mono ?_; rintro e w1 ⟨rfl, rfl⟩))
          go_ret2
          exact ⟨rfl, ((Q.refl w).alloc _).trans hq2⟩
    · rw [if_neg (by rintro ⟨_, hc, _⟩; exact g hc), if_neg (by rintro ⟨_, hc⟩; exact g hc)]
      go_enter Try.func32, Try.ntmps32
      go_wp2_with (first
        | (go_at_call 19; refine (rcheck_ok _ hz _).mono ?_; rintro e w1 ⟨rfl, rfl⟩)
        | (go_at_call 42; refine (rtime_bad _ _ _ _ _ _ g _).mono ?_; rintro e w2 ⟨rfl, hq2⟩))
      go_ret2
      exact ⟨rfl, ((Q.refl w).alloc _).trans hq2⟩
  · rw [if_neg (by rintro ⟨hc, _⟩; exact hz hc), if_neg (by rintro ⟨hc, _⟩; exact hz hc)]
    go_enter Try.func32, Try.ntmps32
    go_wp2_with (go_at_call 19; refine (rcheck_bad _ hz _).mono ?_; rintro e w1 ⟨rfl, rfl⟩)
    go_ret2
    exact ⟨rfl, (Q.refl w).alloc _⟩
end Go.Proofs.Ytpenjmflkhhdgaa
