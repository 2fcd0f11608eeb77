/- The contracts of the document's Is, Next, Prev, Count, Nth, Index, Last. -/
import Derived.Test.YtfhplhfgcanfbaaEvF
import Derived.Deep.RegionHeld3
namespace Go.Proofs.Ytfhplhfgcanfbaa
open Go.RowKit
set_option linter.unusedVariables false
set_option linter.unusedSimpArgs false
theorem ris_bad (s p c t : Int) (h : ¬ Ev.Ok s p c) (w : World) :
    Calls Try.prog 29 #[.agg #[.int .i64 s, .int .i64 p, .int .i64 c], .int .i64 t] w fun e w' => e = .returned (.tuple #[.bool false, .int .i64 16]) ∧ Q w w' := by
  have k1 := fun w2 => rfirst_bad s p c t h w2
  clear h
  go_enter Try.func29, Try.ntmps29
  go_wp2_with (first
    | (go_at_call 36; refine (k1 _).mono ?_; rintro e w1 ⟨rfl, hq1⟩; obtain ⟨x1, x2, x3⟩ := qcell hq1; have hz1 : w.heap.size < w1.heap.size := (by have := hq1.size; (try simp at this); omega)))
  go_ret2
  exact ⟨rfl, by repeat (first | exact Q.refl _ | assumption | refine Q.alloc ?_ _ | refine Q.drew ?_ | refine Q.drewN ?_ _ | refine Q.trans ?_ (by assumption))⟩
theorem ris_time (s p c t : Int) (h : Ev.Ok s p c) (ht : ¬ Ev.TOk t) (w : World) :
    Calls Try.prog 29 #[.agg #[.int .i64 s, .int .i64 p, .int .i64 c], .int .i64 t] w fun e w' => e = .returned (.tuple #[.bool false, .int .i64 14]) ∧ Q w w' := by
  have k1 := fun w2 => rfirst_time s p c t h ht w2
  clear h ht
  go_enter Try.func29, Try.ntmps29
  go_wp2_with (first
    | (go_at_call 36; refine (k1 _).mono ?_; rintro e w1 ⟨rfl, hq1⟩; obtain ⟨x1, x2, x3⟩ := qcell hq1; have hz1 : w.heap.size < w1.heap.size := (by have := hq1.size; (try simp at this); omega)))
  go_ret2
  exact ⟨rfl, by repeat (first | exact Q.refl _ | assumption | refine Q.alloc ?_ _ | refine Q.drew ?_ | refine Q.drewN ?_ _ | refine Q.trans ?_ (by assumption))⟩
theorem rnext_bad (s p c t : Int) (h : ¬ Ev.Ok s p c) (w : World) :
    Calls Try.prog 30 #[.agg #[.int .i64 s, .int .i64 p, .int .i64 c], .int .i64 t] w fun e w' => e = .returned (.tuple #[.int .i64 0, .bool false, .int .i64 16]) ∧ Q w w' := by
  have k1 := fun w2 => rfirst_bad s p c t h w2
  clear h
  go_enter Try.func30, Try.ntmps30
  go_wp2_with (first
    | (go_at_call 36; refine (k1 _).mono ?_; rintro e w1 ⟨rfl, hq1⟩; obtain ⟨x1, x2, x3⟩ := qcell hq1; have hz1 : w.heap.size < w1.heap.size := (by have := hq1.size; (try simp at this); omega)))
  go_ret3
  exact ⟨rfl, by repeat (first | exact Q.refl _ | assumption | refine Q.alloc ?_ _ | refine Q.drew ?_ | refine Q.drewN ?_ _ | refine Q.trans ?_ (by assumption))⟩
theorem rnext_time (s p c t : Int) (h : Ev.Ok s p c) (ht : ¬ Ev.TOk t) (w : World) :
    Calls Try.prog 30 #[.agg #[.int .i64 s, .int .i64 p, .int .i64 c], .int .i64 t] w fun e w' => e = .returned (.tuple #[.int .i64 0, .bool false, .int .i64 14]) ∧ Q w w' := by
  have k1 := fun w2 => rfirst_time s p c t h ht w2
  clear h ht
  go_enter Try.func30, Try.ntmps30
  go_wp2_with (first
    | (go_at_call 36; refine (k1 _).mono ?_; rintro e w1 ⟨rfl, hq1⟩; obtain ⟨x1, x2, x3⟩ := qcell hq1; have hz1 : w.heap.size < w1.heap.size := (by have := hq1.size; (try simp at this); omega)))
  go_ret3
  exact ⟨rfl, by repeat (first | exact Q.refl _ | assumption | refine Q.alloc ?_ _ | refine Q.drew ?_ | refine Q.drewN ?_ _ | refine Q.trans ?_ (by assumption))⟩
theorem rprev_bad (s p c t : Int) (h : ¬ Ev.Ok s p c) (w : World) :
    Calls Try.prog 32 #[.agg #[.int .i64 s, .int .i64 p, .int .i64 c], .int .i64 t] w fun e w' => e = .returned (.tuple #[.int .i64 0, .bool false, .int .i64 16]) ∧ Q w w' := by
  have k1 := fun w2 => rfirst_bad s p c t h w2
  clear h
  go_enter Try.func32, Try.ntmps32
  go_wp2_with (first
    | (go_at_call 36; refine (k1 _).mono ?_; rintro e w1 ⟨rfl, hq1⟩; obtain ⟨x1, x2, x3⟩ := qcell hq1; have hz1 : w.heap.size < w1.heap.size := (by have := hq1.size; (try simp at this); omega)))
  go_ret3
  exact ⟨rfl, by repeat (first | exact Q.refl _ | assumption | refine Q.alloc ?_ _ | refine Q.drew ?_ | refine Q.drewN ?_ _ | refine Q.trans ?_ (by assumption))⟩
theorem rprev_time (s p c t : Int) (h : Ev.Ok s p c) (ht : ¬ Ev.TOk t) (w : World) :
    Calls Try.prog 32 #[.agg #[.int .i64 s, .int .i64 p, .int .i64 c], .int .i64 t] w fun e w' => e = .returned (.tuple #[.int .i64 0, .bool false, .int .i64 14]) ∧ Q w w' := by
  have k1 := fun w2 => rfirst_time s p c t h ht w2
  clear h ht
  go_enter Try.func32, Try.ntmps32
  go_wp2_with (first
    | (go_at_call 36; refine (k1 _).mono ?_; rintro e w1 ⟨rfl, hq1⟩; obtain ⟨x1, x2, x3⟩ := qcell hq1; have hz1 : w.heap.size < w1.heap.size := (by have := hq1.size; (try simp at this); omega)))
  go_ret3
  exact ⟨rfl, by repeat (first | exact Q.refl _ | assumption | refine Q.alloc ?_ _ | refine Q.drew ?_ | refine Q.drewN ?_ _ | refine Q.trans ?_ (by assumption))⟩
theorem is_val (s p c t : Int) : Ev.isB s p c t = (decide (s ≤ t) && (decide ((t - s) % p = 0) && decide ((t - s) / p < Ev.num s p c))) := by
  unfold Ev.isB
  by_cases a : s ≤ t <;> by_cases b : (t - s) % p = 0 <;> by_cases d : (t - s) / p < Ev.num s p c <;> simp [a, b, d]
set_option maxHeartbeats 2000000 in
theorem ris_ok (s p c t : Int) (h : Ev.Ok s p c) (ht : Ev.TOk t) (w : World) :
    Calls Try.prog 29 #[.agg #[.int .i64 s, .int .i64 p, .int .i64 c], .int .i64 t] w fun e w' => e = .returned (.tuple #[.bool (Ev.isB s p c t), .int .i64 0]) ∧ Q w w' := by
  have k1 := fun w2 => rfirst_ok s p c t h ht w2
  have k2 := fun w2 => rnum_any s p c h w2
  rw [is_val]
  obtain ⟨n, hn⟩ : ∃ n, Ev.num s p c = n := ⟨_, rfl⟩
  rw [hn] at k2 ⊢
  clear hn
  obtain ⟨h1, h2, h3, h4, h5, h6⟩ := h
  obtain ⟨t1, t2⟩ := ht
  have hp0 : (p = 0) = False := by simp; omega
  by_cases hs : s ≤ t
  · rw [decide_eq_true hs]
    have wr1 : IntKind.i64.wrap (t - s) = t - s := IntWalk.i64_in _ (by omega)
    have e1 : (t - s).tmod p = (t - s) % p := Int.tmod_eq_emod_of_nonneg (by omega)
    have e2 : (t - s).tdiv p = (t - s) / p := Int.tdiv_eq_ediv_of_nonneg (by omega)
    have hd : 0 ≤ (t - s) / p := Int.ediv_nonneg (by omega) (by omega)
    have hd2 : (t - s) / p ≤ t - s := Int.ediv_le_self _ (by omega)
    by_cases hr : (t - s) % p = 0
    · rw [decide_eq_true hr]
      have hrb := beq_t hr
      obtain ⟨D, hD⟩ : ∃ D, (t - s) / p = D := ⟨_, rfl⟩
      rw [hD] at hd hd2 ⊢
      have hds : decide (s ≤ t) = true := decide_eq_true hs
      have wr2 : IntKind.i64.wrap D = D := IntWalk.i64_in _ (by omega)
      go_enter Try.func29, Try.ntmps29
      go_wp2_with (first
        | (go_at_call 36; refine (k1 _).mono ?_; rintro e w1 ⟨rfl, hq1⟩; obtain ⟨x1, x2, x3⟩ := qcell hq1; have hz1 : w.heap.size < w1.heap.size := (by have := hq1.size; (try simp at this); omega)))
      obtain ⟨c1, c2, c3, c4⟩ := box3 hq1
      go_region_held3 (fun w' => w'.cell? ⟨w.heap.size, 0, none⟩ = some (.int .i64 s) ∧ w'.cell? ⟨w.heap.size, 1, none⟩ = some (.int .i64 p) ∧ w'.cell? ⟨w.heap.size, 2, none⟩ = some (.int .i64 c)) (go_keep) (first | (go_at_call 46; refine (k2 _).mono ?_; rintro e w2 ⟨rfl, hq2⟩; obtain ⟨y1, y2, y3, y4⟩ := box3 (hq1.drew.trans hq2)))
      all_goals
        go_wp2_with fail
        go_ret2
        exact ⟨by simp, by repeat (first | exact Q.refl _ | assumption | refine Q.alloc ?_ _ | refine Q.drew ?_ | refine Q.drewN ?_ _ | refine Q.trans ?_ (by assumption))⟩
    · rw [decide_eq_false hr]
      have hrb := beq_f hr
      have hds : decide (s ≤ t) = true := decide_eq_true hs
      go_enter Try.func29, Try.ntmps29
      go_wp2_with (first
        | (go_at_call 36; refine (k1 _).mono ?_; rintro e w1 ⟨rfl, hq1⟩; obtain ⟨x1, x2, x3⟩ := qcell hq1; have hz1 : w.heap.size < w1.heap.size := (by have := hq1.size; (try simp at this); omega)))
      go_quiet (fail)
      go_wp2_with fail
      go_ret2
      exact ⟨by simp, by repeat (first | exact Q.refl _ | assumption | refine Q.alloc ?_ _ | refine Q.drew ?_ | refine Q.drewN ?_ _ | refine Q.trans ?_ (by assumption))⟩
  · have hds : decide (s ≤ t) = false := decide_eq_false hs
    rw [hds]
    go_enter Try.func29, Try.ntmps29
    go_wp2_with (first
      | (go_at_call 36; refine (k1 _).mono ?_; rintro e w1 ⟨rfl, hq1⟩; obtain ⟨x1, x2, x3⟩ := qcell hq1; have hz1 : w.heap.size < w1.heap.size := (by have := hq1.size; (try simp at this); omega)))
    go_quiet (fail)
    go_wp2_with fail
    go_ret2
    exact ⟨by simp, by repeat (first | exact Q.refl _ | assumption | refine Q.alloc ?_ _ | refine Q.drew ?_ | refine Q.drewN ?_ _ | refine Q.trans ?_ (by assumption))⟩
set_option maxHeartbeats 800000 in
theorem rnext_ok (s p c t : Int) (h : Ev.Ok s p c) (ht : Ev.TOk t) (w : World) :
    Calls Try.prog 30 #[.agg #[.int .i64 s, .int .i64 p, .int .i64 c], .int .i64 t] w fun e w' => e = .returned (.tuple #[.int .i64 (Ev.nxtV s p c t), .bool (Ev.nxtB s p c t), .int .i64 0]) ∧ Q w w' := by
  have k1 := fun w2 => rfirst_ok s p c t h ht w2
  have ht' := ht
  unfold Ev.TOk at ht'
  have k2 := fun w2 => rupto_any s p c (t) h (by omega) w2
  skip
  have k3 := fun w2 => rnum_any s p c h w2
  have hb := Ev.bef_le h (t + 1)
  have hnm := Ev.num_max h
  have hs := And.intro h.1 h.2.1
  unfold Ev.nxtV Ev.nxtB
  by_cases hlt : Ev.bef s p c (t + 1) < Ev.num s p c
  · rw [if_pos hlt, decide_eq_true hlt]
    have htm := tm_bd h (k := Ev.bef s p c (t + 1)) (by omega) (by omega)
    obtain ⟨B, hB⟩ : ∃ B, Ev.bef s p c (t + 1) = B := ⟨_, rfl⟩
    obtain ⟨n, hn⟩ : ∃ n, Ev.num s p c = n := ⟨_, rfl⟩
    rw [hB] at k2 hb hlt htm ⊢
    rw [hn] at k3 hb hnm
    rw [hn] at hlt
    have hne : (B == n) = false := beq_f (by omega)
    obtain ⟨m, hm⟩ : ∃ m, B * p = m := ⟨_, rfl⟩
    rw [hm] at htm ⊢
    clear hB hn h ht
    go_enter Try.func30, Try.ntmps30
    go_wp2_with (first
      | (go_at_call 36; refine (k1 _).mono ?_; rintro e w1 ⟨rfl, hq1⟩; obtain ⟨x0, x1, x2, x3⟩ := box3 hq1)
      | (go_at_call 37; refine (k2 _).mono ?_; rintro e w2 ⟨rfl, hq2⟩; obtain ⟨y0, y1, y2, y3⟩ := box3 (hq1.trans hq2))
      | (go_at_call 46; refine (k3 _).mono ?_; rintro e w3 ⟨rfl, hq3⟩; obtain ⟨z0, z1, z2, z3⟩ := box3 ((hq1.trans hq2).trans hq3)))
    go_ret3
    exact ⟨rfl, by repeat (first | exact Q.refl _ | assumption | refine Q.alloc ?_ _ | refine Q.drew ?_ | refine Q.drewN ?_ _ | refine Q.trans ?_ (by assumption))⟩
  · rw [if_neg hlt, decide_eq_false hlt]
    obtain ⟨B, hB⟩ : ∃ B, Ev.bef s p c (t + 1) = B := ⟨_, rfl⟩
    obtain ⟨n, hn⟩ : ∃ n, Ev.num s p c = n := ⟨_, rfl⟩
    rw [hB] at k2 hb hlt
    rw [hn] at k3 hb hnm
    rw [hn] at hlt
    have hne : (B == n) = true := beq_t (by omega)
    clear hB hn h ht
    go_enter Try.func30, Try.ntmps30
    go_wp2_with (first
      | (go_at_call 36; refine (k1 _).mono ?_; rintro e w1 ⟨rfl, hq1⟩; obtain ⟨x0, x1, x2, x3⟩ := box3 hq1)
      | (go_at_call 37; refine (k2 _).mono ?_; rintro e w2 ⟨rfl, hq2⟩; obtain ⟨y0, y1, y2, y3⟩ := box3 (hq1.trans hq2))
      | (go_at_call 46; refine (k3 _).mono ?_; rintro e w3 ⟨rfl, hq3⟩; obtain ⟨z0, z1, z2, z3⟩ := box3 ((hq1.trans hq2).trans hq3)))
    go_ret3
    exact ⟨rfl, by repeat (first | exact Q.refl _ | assumption | refine Q.alloc ?_ _ | refine Q.drew ?_ | refine Q.drewN ?_ _ | refine Q.trans ?_ (by assumption))⟩
set_option maxHeartbeats 800000 in
theorem rprev_ok (s p c t : Int) (h : Ev.Ok s p c) (ht : Ev.TOk t) (w : World) :
    Calls Try.prog 32 #[.agg #[.int .i64 s, .int .i64 p, .int .i64 c], .int .i64 t] w fun e w' => e = .returned (.tuple #[.int .i64 (Ev.prvV s p c t), .bool (Ev.prvB s p c t), .int .i64 0]) ∧ Q w w' := by
  have k1 := fun w2 => rfirst_ok s p c t h ht w2
  have ht' := ht
  unfold Ev.TOk at ht'
  have k2 := fun w2 => rupto_any s p c (t - 1) h (by omega) w2
  rw [show t - 1 + 1 = t by omega] at k2
  have k3 := fun w2 => rnum_any s p c h w2
  have hb := Ev.bef_le h t
  have hnm := Ev.num_max h
  have hs := And.intro h.1 h.2.1
  unfold Ev.prvV Ev.prvB
  by_cases hlt : 0 < Ev.bef s p c t
  · rw [if_pos hlt, decide_eq_true hlt]
    have htm := tm_bd h (k := Ev.bef s p c t - 1) (by omega) (by omega)
    obtain ⟨B, hB⟩ : ∃ B, Ev.bef s p c t = B := ⟨_, rfl⟩
    obtain ⟨n, hn⟩ : ∃ n, Ev.num s p c = n := ⟨_, rfl⟩
    rw [hB] at k2 hb hlt htm ⊢
    rw [hn] at k3 hb hnm
    skip
    have hne : (B == 0) = false := beq_f (by omega)
    obtain ⟨m, hm⟩ : ∃ m, (B - 1) * p = m := ⟨_, rfl⟩
    rw [hm] at htm ⊢
    clear hB hn h ht
    go_enter Try.func32, Try.ntmps32
    go_wp2_with (first
      | (go_at_call 36; refine (k1 _).mono ?_; rintro e w1 ⟨rfl, hq1⟩; obtain ⟨x0, x1, x2, x3⟩ := box3 hq1)
      | (go_at_call 37; refine (k2 _).mono ?_; rintro e w2 ⟨rfl, hq2⟩; obtain ⟨y0, y1, y2, y3⟩ := box3 (hq1.trans hq2)))
    go_ret3
    exact ⟨rfl, by repeat (first | exact Q.refl _ | assumption | refine Q.alloc ?_ _ | refine Q.drew ?_ | refine Q.drewN ?_ _ | refine Q.trans ?_ (by assumption))⟩
  · rw [if_neg hlt, decide_eq_false hlt]
    obtain ⟨B, hB⟩ : ∃ B, Ev.bef s p c t = B := ⟨_, rfl⟩
    obtain ⟨n, hn⟩ : ∃ n, Ev.num s p c = n := ⟨_, rfl⟩
    rw [hB] at k2 hb hlt
    rw [hn] at k3 hb hnm
    skip
    have hne : (B == 0) = true := beq_t (by omega)
    clear hB hn h ht
    go_enter Try.func32, Try.ntmps32
    go_wp2_with (first
      | (go_at_call 36; refine (k1 _).mono ?_; rintro e w1 ⟨rfl, hq1⟩; obtain ⟨x0, x1, x2, x3⟩ := box3 hq1)
      | (go_at_call 37; refine (k2 _).mono ?_; rintro e w2 ⟨rfl, hq2⟩; obtain ⟨y0, y1, y2, y3⟩ := box3 (hq1.trans hq2)))
    go_ret3
    exact ⟨rfl, by repeat (first | exact Q.refl _ | assumption | refine Q.alloc ?_ _ | refine Q.drew ?_ | refine Q.drewN ?_ _ | refine Q.trans ?_ (by assumption))⟩
end Go.Proofs.Ytfhplhfgcanfbaa
