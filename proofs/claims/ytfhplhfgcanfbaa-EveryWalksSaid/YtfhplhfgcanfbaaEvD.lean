/- The contracts of every.Next, Prev, Count, Nth, Index and Last. -/
import Derived.Test.YtfhplhfgcanfbaaEvC
namespace Go.Proofs.Ytfhplhfgcanfbaa
open Go.RowKit
set_option linter.unusedVariables false
set_option linter.unusedSimpArgs false
theorem ret3_of {f : Func} {v1 v2 v3 : Value} : True := trivial
theorem next_bad (s p c t : Int) (h : ¬ Ev.Ok s p c) (w : World) :
    Calls Try.prog 23 #[.agg #[.int .i64 s, .int .i64 p, .int .i64 c], .int .i64 t] w fun e w' => e = .returned (.tuple #[.int .i64 0, .bool false, .int .i64 16]) ∧ Q w w' := by
  have k1 := fun v w2 => of_bad s p c v h w2
  clear h
  go_enter Try.func23, Try.ntmps23
  go_wp2_with (first
    | (go_at_call 34; refine (k1 _ _).mono ?_; rintro e w1 ⟨rfl, hq1⟩; obtain ⟨x1, x2, x3⟩ := qcell hq1))
  go_ret3
  exact ⟨rfl, by repeat (first | exact Q.refl _ | assumption | refine Q.alloc ?_ _ | refine Q.drew ?_ | refine Q.drewN ?_ _ | refine Q.trans ?_ (by assumption))⟩
theorem next_time (s p c t : Int) (h : Ev.Ok s p c) (ht : ¬ Ev.TOk t) (w : World) :
    Calls Try.prog 23 #[.agg #[.int .i64 s, .int .i64 p, .int .i64 c], .int .i64 t] w fun e w' => e = .returned (.tuple #[.int .i64 0, .bool false, .int .i64 14]) ∧ Q w w' := by
  have k1 := fun b w2 => of_one_bad s p c h t ht b w2
  clear h ht
  go_enter Try.func23, Try.ntmps23
  go_wp2_with (first
    | (go_at_call 34; refine (k1 _ _ (by simp) (by simp)).mono ?_; rintro e w1 ⟨rfl, hq1⟩; obtain ⟨x1, x2, x3⟩ := qcell hq1))
  go_ret3
  exact ⟨rfl, by repeat (first | exact Q.refl _ | assumption | refine Q.alloc ?_ _ | refine Q.drew ?_ | refine Q.drewN ?_ _ | refine Q.trans ?_ (by assumption))⟩
theorem prev_bad (s p c t : Int) (h : ¬ Ev.Ok s p c) (w : World) :
    Calls Try.prog 31 #[.agg #[.int .i64 s, .int .i64 p, .int .i64 c], .int .i64 t] w fun e w' => e = .returned (.tuple #[.int .i64 0, .bool false, .int .i64 16]) ∧ Q w w' := by
  have k1 := fun v w2 => of_bad s p c v h w2
  clear h
  go_enter Try.func31, Try.ntmps31
  go_wp2_with (first
    | (go_at_call 34; refine (k1 _ _).mono ?_; rintro e w1 ⟨rfl, hq1⟩; obtain ⟨x1, x2, x3⟩ := qcell hq1))
  go_ret3
  exact ⟨rfl, by repeat (first | exact Q.refl _ | assumption | refine Q.alloc ?_ _ | refine Q.drew ?_ | refine Q.drewN ?_ _ | refine Q.trans ?_ (by assumption))⟩
theorem prev_time (s p c t : Int) (h : Ev.Ok s p c) (ht : ¬ Ev.TOk t) (w : World) :
    Calls Try.prog 31 #[.agg #[.int .i64 s, .int .i64 p, .int .i64 c], .int .i64 t] w fun e w' => e = .returned (.tuple #[.int .i64 0, .bool false, .int .i64 14]) ∧ Q w w' := by
  have k1 := fun b w2 => of_one_bad s p c h t ht b w2
  clear h ht
  go_enter Try.func31, Try.ntmps31
  go_wp2_with (first
    | (go_at_call 34; refine (k1 _ _ (by simp) (by simp)).mono ?_; rintro e w1 ⟨rfl, hq1⟩; obtain ⟨x1, x2, x3⟩ := qcell hq1))
  go_ret3
  exact ⟨rfl, by repeat (first | exact Q.refl _ | assumption | refine Q.alloc ?_ _ | refine Q.drew ?_ | refine Q.drewN ?_ _ | refine Q.trans ?_ (by assumption))⟩
set_option maxHeartbeats 2000000 in
theorem next_ok (s p c t : Int) (h : Ev.Ok s p c) (ht : Ev.TOk t) (w : World) :
    Calls Try.prog 23 #[.agg #[.int .i64 s, .int .i64 p, .int .i64 c], .int .i64 t] w fun e w' => e = .returned (.tuple #[.int .i64 (Ev.nxtV s p c t), .bool (Ev.nxtB s p c t), .int .i64 0]) ∧ Q w w' := by
  have k1 := fun b w2 => of_one s p c h t ht b w2
  have ht' := ht
  unfold Ev.TOk at ht'
  have k2 := fun w2 => before_any s p c (t + 1) h (by omega) w2
  have hb := Ev.bef_le h (t + 1)
  have hnm := Ev.num_max h
  have hs := And.intro h.1 h.2.1
  unfold Ev.nxtV Ev.nxtB
  by_cases hlt : Ev.bef s p c (t + 1) < Ev.num s p c
  · rw [if_pos hlt, decide_eq_true hlt]
    have k3 := fun w2 => at_in s p c (Ev.num s p c) (Ev.bef s p c (t + 1)) (by omega) (by omega) (tm_bd h (by omega) (by omega)) hs w2
    obtain ⟨B, hB⟩ : ∃ B, Ev.bef s p c (t + 1) = B := ⟨_, rfl⟩
    obtain ⟨n, hn⟩ : ∃ n, Ev.num s p c = n := ⟨_, rfl⟩
    rw [hn] at k1 k2 hb hnm
    rw [hn] at k3
    rw [hB] at k2 k3 hb ⊢
    obtain ⟨U, hU⟩ : ∃ U, s + (B) * p = U := ⟨_, rfl⟩
    rw [hU] at k3 ⊢
    rw [hB] at hlt
    have wr1 : IntKind.i64.wrap (t + 1) = t + 1 := IntWalk.i64_in _ (by omega)
    have wr2 : IntKind.i64.wrap (B - 1) = B - 1 := IntWalk.i64_in _ (by omega)
    clear hn hB hU h ht hs hlt hb hnm
    go_enter Try.func23, Try.ntmps23
    go_wp2_with (first
      | (go_at_call 34; refine (k1 _ _ (by simp) (by simp)).mono ?_; rintro e w1 ⟨rfl, hq1⟩; obtain ⟨x1, x2, x3⟩ := qcell hq1))
    go_region_with (first
      | (go_at_call 35; refine (k2 _).mono ?_; rintro e w2 ⟨rfl, hq2⟩; obtain ⟨y0, y1, y2, y3, yz⟩ := box4 ((Q.refl _).drew.trans hq2))
      | (go_at_call 41; refine (k3 _).mono ?_; rintro e w3 ⟨rfl, hq3⟩))
    all_goals
      go_wp2_with fail
      go_ret3
      exact ⟨rfl, by repeat (first | exact Q.refl _ | assumption | refine Q.alloc ?_ _ | refine Q.drew ?_ | refine Q.drewN ?_ _ | refine Q.trans ?_ (by assumption))⟩
  · rw [if_neg hlt, decide_eq_false hlt]
    have k3 := fun w2 => at_out s p c (Ev.num s p c) (Ev.bef s p c (t + 1)) (by omega) w2
    obtain ⟨B, hB⟩ : ∃ B, Ev.bef s p c (t + 1) = B := ⟨_, rfl⟩
    obtain ⟨n, hn⟩ : ∃ n, Ev.num s p c = n := ⟨_, rfl⟩
    rw [hn] at k1 k2 hb hnm
    rw [hn] at k3
    rw [hB] at k2 k3 hb
    rw [hB] at hlt
    have wr1 : IntKind.i64.wrap (t + 1) = t + 1 := IntWalk.i64_in _ (by omega)
    have wr2 : IntKind.i64.wrap (B - 1) = B - 1 := IntWalk.i64_in _ (by omega)
    clear hn hB h ht hs hlt hb hnm
    go_enter Try.func23, Try.ntmps23
    go_wp2_with (first
      | (go_at_call 34; refine (k1 _ _ (by simp) (by simp)).mono ?_; rintro e w1 ⟨rfl, hq1⟩; obtain ⟨x1, x2, x3⟩ := qcell hq1))
    go_region_with (first
      | (go_at_call 35; refine (k2 _).mono ?_; rintro e w2 ⟨rfl, hq2⟩; obtain ⟨y0, y1, y2, y3, yz⟩ := box4 ((Q.refl _).drew.trans hq2))
      | (go_at_call 41; refine (k3 _).mono ?_; rintro e w3 ⟨rfl, hq3⟩))
    all_goals
      go_wp2_with fail
      go_ret3
      exact ⟨rfl, by repeat (first | exact Q.refl _ | assumption | refine Q.alloc ?_ _ | refine Q.drew ?_ | refine Q.drewN ?_ _ | refine Q.trans ?_ (by assumption))⟩
set_option maxHeartbeats 2000000 in
theorem prev_ok (s p c t : Int) (h : Ev.Ok s p c) (ht : Ev.TOk t) (w : World) :
    Calls Try.prog 31 #[.agg #[.int .i64 s, .int .i64 p, .int .i64 c], .int .i64 t] w fun e w' => e = .returned (.tuple #[.int .i64 (Ev.prvV s p c t), .bool (Ev.prvB s p c t), .int .i64 0]) ∧ Q w w' := by
  have k1 := fun b w2 => of_one s p c h t ht b w2
  have ht' := ht
  unfold Ev.TOk at ht'
  have k2 := fun w2 => before_any s p c t h (by omega) w2
  have hb := Ev.bef_le h t
  have hnm := Ev.num_max h
  have hs := And.intro h.1 h.2.1
  unfold Ev.prvV Ev.prvB
  by_cases hlt : 0 < Ev.bef s p c t
  · rw [if_pos hlt, decide_eq_true hlt]
    have k3 := fun w2 => at_in s p c (Ev.num s p c) (Ev.bef s p c t - 1) (by omega) (by omega) (tm_bd h (by omega) (by omega)) hs w2
    obtain ⟨B, hB⟩ : ∃ B, Ev.bef s p c t = B := ⟨_, rfl⟩
    obtain ⟨n, hn⟩ : ∃ n, Ev.num s p c = n := ⟨_, rfl⟩
    rw [hn] at k1 k2 hb hnm
    rw [hn] at k3
    rw [hB] at k2 k3 hb ⊢
    obtain ⟨U, hU⟩ : ∃ U, s + (B - 1) * p = U := ⟨_, rfl⟩
    rw [hU] at k3 ⊢
    rw [hB] at hlt
    have wr1 : IntKind.i64.wrap (t + 1) = t + 1 := IntWalk.i64_in _ (by omega)
    have wr2 : IntKind.i64.wrap (B - 1) = B - 1 := IntWalk.i64_in _ (by omega)
    clear hn hB hU h ht hs hlt hb hnm
    go_enter Try.func31, Try.ntmps31
    go_wp2_with (first
      | (go_at_call 34; refine (k1 _ _ (by simp) (by simp)).mono ?_; rintro e w1 ⟨rfl, hq1⟩; obtain ⟨x1, x2, x3⟩ := qcell hq1))
    go_region_with (first
      | (go_at_call 35; refine (k2 _).mono ?_; rintro e w2 ⟨rfl, hq2⟩; obtain ⟨y0, y1, y2, y3, yz⟩ := box4 ((Q.refl _).drew.trans hq2))
      | (go_at_call 41; refine (k3 _).mono ?_; rintro e w3 ⟨rfl, hq3⟩))
    all_goals
      go_wp2_with fail
      go_ret3
      exact ⟨rfl, by repeat (first | exact Q.refl _ | assumption | refine Q.alloc ?_ _ | refine Q.drew ?_ | refine Q.drewN ?_ _ | refine Q.trans ?_ (by assumption))⟩
  · rw [if_neg hlt, decide_eq_false hlt]
    have k3 := fun w2 => at_out s p c (Ev.num s p c) (Ev.bef s p c t - 1) (by omega) w2
    obtain ⟨B, hB⟩ : ∃ B, Ev.bef s p c t = B := ⟨_, rfl⟩
    obtain ⟨n, hn⟩ : ∃ n, Ev.num s p c = n := ⟨_, rfl⟩
    rw [hn] at k1 k2 hb hnm
    rw [hn] at k3
    rw [hB] at k2 k3 hb
    rw [hB] at hlt
    have wr1 : IntKind.i64.wrap (t + 1) = t + 1 := IntWalk.i64_in _ (by omega)
    have wr2 : IntKind.i64.wrap (B - 1) = B - 1 := IntWalk.i64_in _ (by omega)
    clear hn hB h ht hs hlt hb hnm
    go_enter Try.func31, Try.ntmps31
    go_wp2_with (first
      | (go_at_call 34; refine (k1 _ _ (by simp) (by simp)).mono ?_; rintro e w1 ⟨rfl, hq1⟩; obtain ⟨x1, x2, x3⟩ := qcell hq1))
    go_region_with (first
      | (go_at_call 35; refine (k2 _).mono ?_; rintro e w2 ⟨rfl, hq2⟩; obtain ⟨y0, y1, y2, y3, yz⟩ := box4 ((Q.refl _).drew.trans hq2))
      | (go_at_call 41; refine (k3 _).mono ?_; rintro e w3 ⟨rfl, hq3⟩))
    all_goals
      go_wp2_with fail
      go_ret3
      exact ⟨rfl, by repeat (first | exact Q.refl _ | assumption | refine Q.alloc ?_ _ | refine Q.drew ?_ | refine Q.drewN ?_ _ | refine Q.trans ?_ (by assumption))⟩
end Go.Proofs.Ytfhplhfgcanfbaa
