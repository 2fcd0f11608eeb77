/- The contracts of every.Count, Nth, Index and Last. -/
import Derived.Test.YtfhplhfgcanfbaaEvD
namespace Go.Proofs.Ytfhplhfgcanfbaa
open Go.RowKit
set_option linter.unusedVariables false
set_option linter.unusedSimpArgs false
theorem count_bad (s p c a b : Int) (h : ¬ Ev.Ok s p c) (w : World) :
    Calls Try.prog 14 #[.agg #[.int .i64 s, .int .i64 p, .int .i64 c], .int .i64 a, .int .i64 b] w fun e w' => e = .returned (.tuple #[.int .i64 0, .int .i64 16]) ∧ Q w w' := by
  have k1 := fun v w2 => of_bad s p c v h w2
  clear h
  go_enter Try.func14, Try.ntmps14
  go_wp2_with (first
    | (go_at_call 34; refine (k1 _ _).mono ?_; rintro e w1 ⟨rfl, hq1⟩; obtain ⟨x1, x2, x3⟩ := qcell hq1))
  go_ret2
  exact ⟨rfl, by repeat (first | exact Q.refl _ | assumption | refine Q.alloc ?_ _ | refine Q.drew ?_ | refine Q.drewN ?_ _ | refine Q.trans ?_ (by assumption))⟩
theorem count_time1 (s p c a b : Int) (h : Ev.Ok s p c) (ht : ¬ Ev.TOk a) (w : World) :
    Calls Try.prog 14 #[.agg #[.int .i64 s, .int .i64 p, .int .i64 c], .int .i64 a, .int .i64 b] w fun e w' => e = .returned (.tuple #[.int .i64 0, .int .i64 14]) ∧ Q w w' := by
  have k1 := fun q w2 => of_two_bad1 s p c h a b ht q w2
  clear h ht
  go_enter Try.func14, Try.ntmps14
  go_wp2_with (first
    | (go_at_call 34; refine (k1 _ _ (by simp) (by simp) (by simp)).mono ?_; rintro e w1 ⟨rfl, hq1⟩; obtain ⟨x1, x2, x3⟩ := qcell hq1))
  go_ret2
  exact ⟨rfl, by repeat (first | exact Q.refl _ | assumption | refine Q.alloc ?_ _ | refine Q.drew ?_ | refine Q.drewN ?_ _ | refine Q.trans ?_ (by assumption))⟩
theorem count_time2 (s p c a b : Int) (h : Ev.Ok s p c) (ht : Ev.TOk a) (hu : ¬ Ev.TOk b) (w : World) :
    Calls Try.prog 14 #[.agg #[.int .i64 s, .int .i64 p, .int .i64 c], .int .i64 a, .int .i64 b] w fun e w' => e = .returned (.tuple #[.int .i64 0, .int .i64 14]) ∧ Q w w' := by
  have k1 := fun q w2 => of_two_bad2 s p c h a b ht hu q w2
  clear h ht hu
  go_enter Try.func14, Try.ntmps14
  go_wp2_with (first
    | (go_at_call 34; refine (k1 _ _ (by simp) (by simp) (by simp)).mono ?_; rintro e w1 ⟨rfl, hq1⟩; obtain ⟨x1, x2, x3⟩ := qcell hq1))
  go_ret2
  exact ⟨rfl, by repeat (first | exact Q.refl _ | assumption | refine Q.alloc ?_ _ | refine Q.drew ?_ | refine Q.drewN ?_ _ | refine Q.trans ?_ (by assumption))⟩
theorem cnt_max {s p c : Int} (h : Ev.Ok s p c) (a b : Int) : (0 < Ev.bef s p c (b + 1) - Ev.bef s p c a ∧ Ev.cntV s p c a b = Ev.bef s p c (b + 1) - Ev.bef s p c a) ∨ (Ev.bef s p c (b + 1) - Ev.bef s p c a ≤ 0 ∧ Ev.cntV s p c a b = 0) := by
  unfold Ev.cntV
  by_cases hab : a ≤ b
  · rw [if_pos hab]
    have := Ev.bef_mono h (show a ≤ b + 1 by omega)
    omega
  · rw [if_neg hab]
    have := Ev.bef_mono h (show b + 1 ≤ a by omega)
    omega
set_option maxHeartbeats 2000000 in
theorem count_ok (s p c a b : Int) (h : Ev.Ok s p c) (ha : Ev.TOk a) (hb : Ev.TOk b) (w : World) :
    Calls Try.prog 14 #[.agg #[.int .i64 s, .int .i64 p, .int .i64 c], .int .i64 a, .int .i64 b] w fun e w' => e = .returned (.tuple #[.int .i64 (Ev.cntV s p c a b), .int .i64 0]) ∧ Q w w' := by
  have k1 := fun q w2 => of_two s p c h a b ha hb q w2
  have ha' := ha
  have hb' := hb
  unfold Ev.TOk at ha' hb'
  have k2 := fun w2 => before_any s p c (b + 1) h (by omega) w2
  have k3 := fun w2 => before_any s p c a h (by omega) w2
  have b1 := Ev.bef_le h (b + 1)
  have b2 := Ev.bef_le h a
  have hnm := Ev.num_max h
  have hcut := cnt_max h a b
  obtain ⟨n, hn⟩ : ∃ n, Ev.num s p c = n := ⟨_, rfl⟩
  obtain ⟨B, hB⟩ : ∃ B, Ev.bef s p c (b + 1) = B := ⟨_, rfl⟩
  obtain ⟨A, hA⟩ : ∃ A, Ev.bef s p c a = A := ⟨_, rfl⟩
  rw [hn] at k1 k2 b1 hnm
  rw [hn] at k3 b2
  rw [hB] at k2 b1 hcut
  rw [hA] at k3 b2 hcut
  have wr1 : IntKind.i64.wrap (b + 1) = b + 1 := IntWalk.i64_in _ (by omega)
  have wr2 : IntKind.i64.wrap (B - A) = B - A := IntWalk.i64_in _ (by omega)
  clear hn hB hA h ha hb
  rcases hcut with ⟨h1, h2⟩ | ⟨h1, h2⟩
  all_goals
    rw [h2]
    clear h2
    go_enter Try.func14, Try.ntmps14
    go_wp2_with (first
      | (go_at_call 34; refine (k1 _ _ (by simp) (by simp) (by simp)).mono ?_; rintro e w1 ⟨rfl, hq1⟩; obtain ⟨x1, x2, x3⟩ := qcell hq1))
    go_region_with (first
      | (go_at_call 35; with_reducible refine (k2 _).mono ?_; rintro e w2 ⟨rfl, hq2⟩; obtain ⟨y1, y2, y3⟩ := qcell hq2; have hz2 : w1.heap.size < w2.heap.size := (by have := hq2.size; (try simp at this); omega))
      | (go_at_call 35; with_reducible refine (k3 _).mono ?_; rintro e w3 ⟨rfl, hq3⟩; obtain ⟨z1, z2, z3⟩ := qcell hq3; have hz3 : w1.heap.size < w3.heap.size := (by have := hq3.size; (try simp at this); omega)))
    all_goals
      go_wp2_with fail
      all_goals
        go_ret2
        exact ⟨ret_two (by omega) rfl, by repeat (first | exact Q.refl _ | assumption | refine Q.alloc ?_ _ | refine Q.drew ?_ | refine Q.drewN ?_ _ | refine Q.trans ?_ (by assumption))⟩
theorem nth_bad (s p c n : Int) (h : ¬ Ev.Ok s p c) (w : World) :
    Calls Try.prog 25 #[.agg #[.int .i64 s, .int .i64 p, .int .i64 c], .int .i64 n] w fun e w' => e = .returned (.tuple #[.int .i64 0, .int .i64 16]) ∧ Q w w' := by
  have k1 := fun v w2 => of_bad s p c v h w2
  clear h
  go_enter Try.func25, Try.ntmps25
  go_wp2_with (first
    | (go_at_call 34; refine (k1 _ _).mono ?_; rintro e w1 ⟨rfl, hq1⟩; obtain ⟨x1, x2, x3⟩ := qcell hq1))
  go_ret2
  exact ⟨rfl, by repeat (first | exact Q.refl _ | assumption | refine Q.alloc ?_ _ | refine Q.drew ?_ | refine Q.drewN ?_ _ | refine Q.trans ?_ (by assumption))⟩
theorem nth_in (s p c n : Int) (h : Ev.Ok s p c) (h0 : 0 ≤ n) (h1 : n < Ev.num s p c) (w : World) :
    Calls Try.prog 25 #[.agg #[.int .i64 s, .int .i64 p, .int .i64 c], .int .i64 n] w fun e w' => e = .returned (.tuple #[.int .i64 (s + n * p), .int .i64 0]) ∧ Q w w' := by
  have k1 := fun w2 => of_none s p c h w2
  have k3 := fun w2 => at_in s p c (Ev.num s p c) n h0 h1 (tm_bd h h0 h1) ⟨h.1, h.2.1⟩ w2
  obtain ⟨N, hn⟩ : ∃ N, Ev.num s p c = N := ⟨_, rfl⟩
  obtain ⟨U, hU⟩ : ∃ U, s + n * p = U := ⟨_, rfl⟩
  rw [hn] at k1
  rw [hn, hU] at k3
  rw [hU]
  clear hn hU h h0 h1
  go_enter Try.func25, Try.ntmps25
  go_wp2_with (first
    | (go_at_call 34; refine (k1 _).mono ?_; rintro e w1 ⟨rfl, hq1⟩; obtain ⟨x1, x2, x3⟩ := qcell hq1)
    | (go_at_call 41; refine (k3 _).mono ?_; rintro e w3 ⟨rfl, hq3⟩))
  go_ret2
  exact ⟨rfl, by repeat (first | exact Q.refl _ | assumption | refine Q.alloc ?_ _ | refine Q.drew ?_ | refine Q.drewN ?_ _ | refine Q.trans ?_ (by assumption))⟩
theorem nth_out (s p c n : Int) (h : Ev.Ok s p c) (h0 : n < 0 ∨ Ev.num s p c ≤ n) (w : World) :
    Calls Try.prog 25 #[.agg #[.int .i64 s, .int .i64 p, .int .i64 c], .int .i64 n] w fun e w' => e = .returned (.tuple #[.int .i64 0, .int .i64 3]) ∧ Q w w' := by
  have k1 := fun w2 => of_none s p c h w2
  have k3 := fun w2 => at_out s p c (Ev.num s p c) n h0 w2
  obtain ⟨N, hn⟩ : ∃ N, Ev.num s p c = N := ⟨_, rfl⟩
  rw [hn] at k1
  rw [hn] at k3
  clear hn h h0
  go_enter Try.func25, Try.ntmps25
  go_wp2_with (first
    | (go_at_call 34; refine (k1 _).mono ?_; rintro e w1 ⟨rfl, hq1⟩; obtain ⟨x1, x2, x3⟩ := qcell hq1)
    | (go_at_call 41; refine (k3 _).mono ?_; rintro e w3 ⟨rfl, hq3⟩))
  go_ret2
  exact ⟨rfl, by repeat (first | exact Q.refl _ | assumption | refine Q.alloc ?_ _ | refine Q.drew ?_ | refine Q.drewN ?_ _ | refine Q.trans ?_ (by assumption))⟩
theorem index_bad (s p c t : Int) (h : ¬ Ev.Ok s p c) (w : World) :
    Calls Try.prog 24 #[.agg #[.int .i64 s, .int .i64 p, .int .i64 c], .int .i64 t] w fun e w' => e = .returned (.tuple #[.int .i64 0, .int .i64 16]) ∧ Q w w' := by
  have k1 := fun v w2 => of_bad s p c v h w2
  clear h
  go_enter Try.func24, Try.ntmps24
  go_wp2_with (first
    | (go_at_call 34; refine (k1 _ _).mono ?_; rintro e w1 ⟨rfl, hq1⟩; obtain ⟨x1, x2, x3⟩ := qcell hq1))
  go_ret2
  exact ⟨rfl, by repeat (first | exact Q.refl _ | assumption | refine Q.alloc ?_ _ | refine Q.drew ?_ | refine Q.drewN ?_ _ | refine Q.trans ?_ (by assumption))⟩
theorem index_time (s p c t : Int) (h : Ev.Ok s p c) (ht : ¬ Ev.TOk t) (w : World) :
    Calls Try.prog 24 #[.agg #[.int .i64 s, .int .i64 p, .int .i64 c], .int .i64 t] w fun e w' => e = .returned (.tuple #[.int .i64 0, .int .i64 14]) ∧ Q w w' := by
  have k1 := fun b w2 => of_one_bad s p c h t ht b w2
  clear h ht
  go_enter Try.func24, Try.ntmps24
  go_wp2_with (first
    | (go_at_call 34; refine (k1 _ _ (by simp) (by simp)).mono ?_; rintro e w1 ⟨rfl, hq1⟩; obtain ⟨x1, x2, x3⟩ := qcell hq1))
  go_ret2
  exact ⟨rfl, by repeat (first | exact Q.refl _ | assumption | refine Q.alloc ?_ _ | refine Q.drew ?_ | refine Q.drewN ?_ _ | refine Q.trans ?_ (by assumption))⟩
theorem index_in (s p c t : Int) (h : Ev.Ok s p c) (ht : Ev.TOk t) (hi : Ev.isB s p c t = true) (w : World) :
    Calls Try.prog 24 #[.agg #[.int .i64 s, .int .i64 p, .int .i64 c], .int .i64 t] w fun e w' => e = .returned (.tuple #[.int .i64 (Ev.bef s p c t), .int .i64 0]) ∧ Q w w' := by
  have k1 := fun b w2 => of_one s p c h t ht b w2
  have k2 := fun w2 => has_any s p c t h (by unfold Ev.TOk at ht; omega) w2
  have k3 := fun w2 => before_any s p c t h (by unfold Ev.TOk at ht; omega) w2
  obtain ⟨n, hn⟩ : ∃ n, Ev.num s p c = n := ⟨_, rfl⟩
  obtain ⟨B, hB⟩ : ∃ B, Ev.bef s p c t = B := ⟨_, rfl⟩
  rw [hn] at k1
  rw [hn, hi] at k2
  rw [hn, hB] at k3
  rw [hB]
  clear hn hi hB h ht
  go_enter Try.func24, Try.ntmps24
  go_wp2_with (first
    | (go_at_call 34; refine (k1 _ _ (by simp) (by simp)).mono ?_; rintro e w1 ⟨rfl, hq1⟩; obtain ⟨x1, x2, x3⟩ := qcell hq1)
    | (go_at_call 43; refine (k2 _).mono ?_; rintro e w2 ⟨rfl, hq2⟩; obtain ⟨y1, y2, y3⟩ := qcell hq2)
    | (go_at_call 35; refine (k3 _).mono ?_; rintro e w3 ⟨rfl, hq3⟩))
  go_ret2
  exact ⟨rfl, by repeat (first | exact Q.refl _ | assumption | refine Q.alloc ?_ _ | refine Q.drew ?_ | refine Q.drewN ?_ _ | refine Q.trans ?_ (by assumption))⟩
theorem index_out (s p c t : Int) (h : Ev.Ok s p c) (ht : Ev.TOk t) (hi : Ev.isB s p c t = false) (w : World) :
    Calls Try.prog 24 #[.agg #[.int .i64 s, .int .i64 p, .int .i64 c], .int .i64 t] w fun e w' => e = .returned (.tuple #[.int .i64 0, .int .i64 5]) ∧ Q w w' := by
  have k1 := fun b w2 => of_one s p c h t ht b w2
  have k2 := fun w2 => has_any s p c t h (by unfold Ev.TOk at ht; omega) w2
  obtain ⟨n, hn⟩ : ∃ n, Ev.num s p c = n := ⟨_, rfl⟩
  rw [hn] at k1
  rw [hn, hi] at k2
  clear hn hi h ht
  go_enter Try.func24, Try.ntmps24
  go_wp2_with (first
    | (go_at_call 34; refine (k1 _ _ (by simp) (by simp)).mono ?_; rintro e w1 ⟨rfl, hq1⟩; obtain ⟨x1, x2, x3⟩ := qcell hq1)
    | (go_at_call 43; refine (k2 _).mono ?_; rintro e w2 ⟨rfl, hq2⟩; obtain ⟨y1, y2, y3⟩ := qcell hq2))
  go_ret2
  exact ⟨rfl, by repeat (first | exact Q.refl _ | assumption | refine Q.alloc ?_ _ | refine Q.drew ?_ | refine Q.drewN ?_ _ | refine Q.trans ?_ (by assumption))⟩
theorem last_bad (s p c : Int) (h : ¬ Ev.Ok s p c) (w : World) :
    Calls Try.prog 22 #[.agg #[.int .i64 s, .int .i64 p, .int .i64 c]] w fun e w' => e = .returned (.tuple #[.int .i64 0, .bool false, .int .i64 16]) ∧ Q w w' := by
  have k1 := fun v w2 => of_bad s p c v h w2
  clear h
  go_enter Try.func22, Try.ntmps22
  go_wp2_with (first
    | (go_at_call 34; refine (k1 _ _).mono ?_; rintro e w1 ⟨rfl, hq1⟩; obtain ⟨x1, x2, x3⟩ := qcell hq1))
  go_ret3
  exact ⟨rfl, by repeat (first | exact Q.refl _ | assumption | refine Q.alloc ?_ _ | refine Q.drew ?_ | refine Q.drewN ?_ _ | refine Q.trans ?_ (by assumption))⟩
theorem last_ok (s p c : Int) (h : Ev.Ok s p c) (w : World) :
    Calls Try.prog 22 #[.agg #[.int .i64 s, .int .i64 p, .int .i64 c]] w fun e w' => e = .returned (.tuple #[.int .i64 (s + (Ev.num s p c - 1) * p), .bool true, .int .i64 0]) ∧ Q w w' := by
  have hp := Ev.num_pos h
  have hm := Ev.num_max h
  have k1 := fun w2 => of_none s p c h w2
  have k3 := fun w2 => at_in s p c (Ev.num s p c) (Ev.num s p c - 1) (by omega) (by omega) (tm_bd h (by omega) (by omega)) ⟨h.1, h.2.1⟩ w2
  obtain ⟨N, hn⟩ : ∃ N, Ev.num s p c = N := ⟨_, rfl⟩
  rw [hn] at k1 k3 hp hm ⊢
  obtain ⟨U, hU⟩ : ∃ U, s + (N - 1) * p = U := ⟨_, rfl⟩
  rw [hU] at k3 ⊢
  clear hn hU h
  go_enter Try.func22, Try.ntmps22
  go_wp2_with (first
    | (go_at_call 34; refine (k1 _).mono ?_; rintro e w1 ⟨rfl, hq1⟩; obtain ⟨x1, x2, x3⟩ := qcell hq1)
    | (go_at_call 41; refine (k3 _).mono ?_; rintro e w3 ⟨rfl, hq3⟩))
  go_ret3
  exact ⟨rfl, by repeat (first | exact Q.refl _ | assumption | refine Q.alloc ?_ _ | refine Q.drew ?_ | refine Q.drewN ?_ _ | refine Q.trans ?_ (by assumption))⟩
end Go.Proofs.Ytfhplhfgcanfbaa
