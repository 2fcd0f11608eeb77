/- The contracts of the document's Count, Nth, Index, Last. -/
import Derived.Test.YtfhplhfgcanfbaaEvG
namespace Go.Proofs.Ytfhplhfgcanfbaa
open Go.RowKit
set_option linter.unusedVariables false
set_option linter.unusedSimpArgs false
/-- a call that makes memory alone leaves three cells of a block as they were -/
theorem keep3 {P : Program} {f : Nat} {args : Array Value} {v : Ending} {w2 : World} {B : Nat} {x y z : Value} (k : Calls P f args w2 fun e w' => e = v ∧ Q w2 w')
    (h : w2.cell? ⟨B, 0, none⟩ = some x ∧ w2.cell? ⟨B, 1, none⟩ = some y ∧ w2.cell? ⟨B, 2, none⟩ = some z ∧ B < w2.heap.size) :
    Calls P f args w2 fun e w' => e = v ∧ Q w2 w' ∧ w'.cell? ⟨B, 0, none⟩ = some x ∧ w'.cell? ⟨B, 1, none⟩ = some y ∧ w'.cell? ⟨B, 2, none⟩ = some z ∧ B < w'.heap.size := by
  obtain ⟨h0, h1, h2, h3⟩ := h
  exact k.mono fun e w' ⟨a, q⟩ => ⟨a, q, (q.cell (p := ⟨B, 0, none⟩) h3).trans h0, (q.cell (p := ⟨B, 1, none⟩) h3).trans h1, (q.cell (p := ⟨B, 2, none⟩) h3).trans h2, Nat.lt_of_lt_of_le h3 q.size⟩
theorem rcount_bad (s p c a b : Int) (h : ¬ Ev.Ok s p c) (w : World) :
    Calls Try.prog 15 #[.agg #[.int .i64 s, .int .i64 p, .int .i64 c], .int .i64 a, .int .i64 b] w fun e w' => e = .returned (.tuple #[.int .i64 0, .int .i64 16]) ∧ Q w w' := by
  have k1 := fun w2 => rfirst_bad s p c a h w2
  clear h
  go_enter Try.func15, Try.ntmps15
  go_wp2_with (first
    | (go_at_call 36; with_reducible refine (k1 _).mono ?_; rintro e w1 ⟨rfl, hq1⟩; obtain ⟨x0, x1, x2, x3⟩ := box3 hq1))
  go_ret2
  exact ⟨rfl, by repeat (first | exact Q.refl _ | assumption | refine Q.alloc ?_ _ | refine Q.drew ?_ | refine Q.drewN ?_ _ | refine Q.trans ?_ (by assumption))⟩
theorem rcount_time1 (s p c a b : Int) (h : Ev.Ok s p c) (ht : ¬ Ev.TOk a) (w : World) :
    Calls Try.prog 15 #[.agg #[.int .i64 s, .int .i64 p, .int .i64 c], .int .i64 a, .int .i64 b] w fun e w' => e = .returned (.tuple #[.int .i64 0, .int .i64 14]) ∧ Q w w' := by
  have k1 := fun w2 => rfirst_time s p c a h ht w2
  clear h ht
  go_enter Try.func15, Try.ntmps15
  go_wp2_with (first
    | (go_at_call 36; with_reducible refine (k1 _).mono ?_; rintro e w1 ⟨rfl, hq1⟩; obtain ⟨x0, x1, x2, x3⟩ := box3 hq1))
  go_ret2
  exact ⟨rfl, by repeat (first | exact Q.refl _ | assumption | refine Q.alloc ?_ _ | refine Q.drew ?_ | refine Q.drewN ?_ _ | refine Q.trans ?_ (by assumption))⟩
theorem rcount_time2 (s p c a b : Int) (h : Ev.Ok s p c) (ht : Ev.TOk a) (hu : ¬ Ev.TOk b) (w : World) :
    Calls Try.prog 15 #[.agg #[.int .i64 s, .int .i64 p, .int .i64 c], .int .i64 a, .int .i64 b] w fun e w' => e = .returned (.tuple #[.int .i64 0, .int .i64 14]) ∧ Q w w' := by
  have k1 := fun w2 => rfirst_ok s p c a h ht w2
  have k2 := fun w2 => rfirst_time s p c b h hu w2
  have hab : a ≠ b := fun e => hu (e ▸ ht)
  clear h ht hu
  go_enter Try.func15, Try.ntmps15
  go_wp2_with (first
    | (go_at_call 36; with_reducible refine (k1 _).mono ?_; rintro e w1 ⟨rfl, hq1⟩; obtain ⟨x0, x1, x2, x3⟩ := box3 hq1)
    | (go_at_call 36; with_reducible refine (k2 _).mono ?_; rintro e w2 ⟨rfl, hq2⟩; obtain ⟨y0, y1, y2, y3⟩ := box3 (hq1.trans hq2)))
  go_ret2
  exact ⟨rfl, by repeat (first | exact Q.refl _ | assumption | refine Q.alloc ?_ _ | refine Q.drew ?_ | refine Q.drewN ?_ _ | refine Q.trans ?_ (by assumption))⟩
theorem rcount_less (s p c a b : Int) (h : Ev.Ok s p c) (ha : Ev.TOk a) (hb : Ev.TOk b) (hab : b < a) (w : World) :
    Calls Try.prog 15 #[.agg #[.int .i64 s, .int .i64 p, .int .i64 c], .int .i64 a, .int .i64 b] w fun e w' => e = .returned (.tuple #[.int .i64 0, .int .i64 0]) ∧ Q w w' := by
  have k1 := fun w2 => rfirst_ok s p c a h ha w2
  have k2 := fun w2 => rfirst_ok s p c b h hb w2
  clear h ha hb
  go_enter Try.func15, Try.ntmps15
  go_wp2_with (first
    | (go_at_call 36; with_reducible refine (k1 _).mono ?_; rintro e w1 ⟨rfl, hq1⟩; obtain ⟨x0, x1, x2, x3⟩ := box3 hq1)
    | (go_at_call 36; with_reducible refine (k2 _).mono ?_; rintro e w2 ⟨rfl, hq2⟩; obtain ⟨y0, y1, y2, y3⟩ := box3 (hq1.trans hq2)))
  go_ret2
  exact ⟨rfl, by repeat (first | exact Q.refl _ | assumption | refine Q.alloc ?_ _ | refine Q.drew ?_ | refine Q.drewN ?_ _ | refine Q.trans ?_ (by assumption))⟩
set_option maxHeartbeats 800000 in
theorem rcount_in (s p c a b : Int) (h : Ev.Ok s p c) (ha : Ev.TOk a) (hb : Ev.TOk b) (hab : a ≤ b) (w : World) :
    Calls Try.prog 15 #[.agg #[.int .i64 s, .int .i64 p, .int .i64 c], .int .i64 a, .int .i64 b] w fun e w' => e = .returned (.tuple #[.int .i64 (Ev.bef s p c (b + 1) - Ev.bef s p c a), .int .i64 0]) ∧ Q w w' := by
  have k1 := fun w2 => rfirst_ok s p c a h ha w2
  have k2 := fun w2 => rfirst_ok s p c b h hb w2
  have ha' := ha
  have hb' := hb
  unfold Ev.TOk at ha' hb'
  have k3 := fun w2 => rupto_any s p c b h (by omega) w2
  have k4 := fun w2 => rupto_any s p c (a - 1) h (by omega) w2
  rw [show a - 1 + 1 = a by omega] at k4
  have b1 := Ev.bef_le h (b + 1)
  have b2 := Ev.bef_le h a
  have hnm := Ev.num_max h
  obtain ⟨B, hB⟩ : ∃ B, Ev.bef s p c (b + 1) = B := ⟨_, rfl⟩
  obtain ⟨A, hA⟩ : ∃ A, Ev.bef s p c a = A := ⟨_, rfl⟩
  rw [hB] at k3 b1 ⊢
  rw [hA] at k4 b2 ⊢
  have wr1 : IntKind.i64.wrap (a - 1) = a - 1 := IntWalk.i64_in _ (by omega)
  have wr2 : IntKind.i64.wrap (B - A) = B - A := IntWalk.i64_in _ (by omega)
  have hne : b ≠ a - 1 := by omega
  clear hB hA h ha hb
  go_enter Try.func15, Try.ntmps15
  go_wp2_with (first
    | (go_at_call 36; with_reducible refine (k1 _).mono ?_; rintro e w1 ⟨rfl, hq1⟩; obtain ⟨x0, x1, x2, x3⟩ := box3 hq1)
    | (go_at_call 36; with_reducible refine (k2 _).mono ?_; rintro e w2 ⟨rfl, hq2⟩; obtain ⟨y0, y1, y2, y3⟩ := box3 (hq1.trans hq2)))
  go_region_held3 (fun w' => w'.cell? ⟨w.heap.size, 0, none⟩ = some (.int .i64 s) ∧ w'.cell? ⟨w.heap.size, 1, none⟩ = some (.int .i64 p) ∧ w'.cell? ⟨w.heap.size, 2, none⟩ = some (.int .i64 c)) (go_keep) (first
    | (go_at_call 37; with_reducible refine (keep3 (B := w.heap.size) (x := .int .i64 s) (y := .int .i64 p) (z := .int .i64 c) (k3 _) ?_).mono ?_; (refine ⟨?_, ?_, ?_, ?_⟩ <;> (try simp) <;> assumption); rintro e w3 ⟨rfl, hq3, u0, u1, u2, u3⟩)
    | (go_at_call 37; with_reducible refine (keep3 (B := w.heap.size) (x := .int .i64 s) (y := .int .i64 p) (z := .int .i64 c) (k4 _) ?_).mono ?_; (refine ⟨?_, ?_, ?_, ?_⟩ <;> (try simp) <;> assumption); rintro e w4 ⟨rfl, hq4, v0, v1, v2, v3⟩))
  all_goals
    go_wp2_with fail
    go_ret2
    exact ⟨rfl, by repeat (first | exact Q.refl _ | assumption | refine Q.alloc ?_ _ | refine Q.drew ?_ | refine Q.drewN ?_ _ | refine Q.trans ?_ (by assumption))⟩
theorem rnth_bad (s p c n : Int) (h : ¬ Ev.Ok s p c) (w : World) :
    Calls Try.prog 26 #[.agg #[.int .i64 s, .int .i64 p, .int .i64 c], .int .i64 n] w fun e w' => e = .returned (.tuple #[.int .i64 0, .int .i64 16]) ∧ Q w w' := by
  have k1 := fun w2 => rcheck_bad s p c h w2
  clear h
  go_enter Try.func26, Try.ntmps26
  go_wp2_with (go_at_call 33; refine (k1 _).mono ?_; rintro e w1 ⟨rfl, hq1⟩)
  go_ret2
  exact ⟨rfl, by repeat (first | exact Q.refl _ | assumption | refine Q.alloc ?_ _ | refine Q.drew ?_ | refine Q.drewN ?_ _ | refine Q.trans ?_ (by assumption))⟩
theorem rnth_out (s p c n : Int) (h : Ev.Ok s p c) (h0 : n < 0 ∨ Ev.num s p c ≤ n) (w : World) :
    Calls Try.prog 26 #[.agg #[.int .i64 s, .int .i64 p, .int .i64 c], .int .i64 n] w fun e w' => e = .returned (.tuple #[.int .i64 0, .int .i64 3]) ∧ Q w w' := by
  have k1 := fun w2 => rcheck_ok s p c h w2
  have k3 := fun w2 => rnum_any s p c h w2
  obtain ⟨N, hn⟩ : ∃ N, Ev.num s p c = N := ⟨_, rfl⟩
  rw [hn] at k3 h0
  clear hn h
  by_cases hneg : n < 0
  all_goals
    have hh : n < 0 ∨ N ≤ n := h0
    first | (have hle : N ≤ n := by omega) | skip
    clear h0 hh
    go_enter Try.func26, Try.ntmps26
    go_wp2_with (first
      | (go_at_call 33; refine (k1 _).mono ?_; rintro e w1 ⟨rfl, hq1⟩; obtain ⟨x0, x1, x2, x3⟩ := box3 hq1)
      | (go_at_call 46; refine (k3 _).mono ?_; rintro e w3 ⟨rfl, hq3⟩; obtain ⟨z0, z1, z2, z3⟩ := box3 (hq1.trans hq3)))
    go_ret2
    exact ⟨rfl, by repeat (first | exact Q.refl _ | assumption | refine Q.alloc ?_ _ | refine Q.drew ?_ | refine Q.drewN ?_ _ | refine Q.trans ?_ (by assumption))⟩
theorem rnth_in (s p c n : Int) (h : Ev.Ok s p c) (h0 : 0 ≤ n) (h1 : n < Ev.num s p c) (w : World) :
    Calls Try.prog 26 #[.agg #[.int .i64 s, .int .i64 p, .int .i64 c], .int .i64 n] w fun e w' => e = .returned (.tuple #[.int .i64 (s + n * p), .int .i64 0]) ∧ Q w w' := by
  have k1 := fun w2 => rcheck_ok s p c h w2
  have k3 := fun w2 => rnum_any s p c h w2
  have htm := tm_bd h h0 h1
  have hs := And.intro h.1 h.2.1
  obtain ⟨N, hn⟩ : ∃ N, Ev.num s p c = N := ⟨_, rfl⟩
  obtain ⟨m, hm⟩ : ∃ m, n * p = m := ⟨_, rfl⟩
  rw [hn] at k3 h1
  rw [hm] at htm ⊢
  clear hn h
  go_enter Try.func26, Try.ntmps26
  go_wp2_with (first
    | (go_at_call 33; refine (k1 _).mono ?_; rintro e w1 ⟨rfl, hq1⟩; obtain ⟨x0, x1, x2, x3⟩ := box3 hq1)
    | (go_at_call 46; refine (k3 _).mono ?_; rintro e w3 ⟨rfl, hq3⟩; obtain ⟨z0, z1, z2, z3⟩ := box3 (hq1.trans hq3)))
  go_ret2
  exact ⟨rfl, by repeat (first | exact Q.refl _ | assumption | refine Q.alloc ?_ _ | refine Q.drew ?_ | refine Q.drewN ?_ _ | refine Q.trans ?_ (by assumption))⟩
theorem rindex_bad (s p c t : Int) (h : ¬ Ev.Ok s p c) (w : World) :
    Calls Try.prog 27 #[.agg #[.int .i64 s, .int .i64 p, .int .i64 c], .int .i64 t] w fun e w' => e = .returned (.tuple #[.int .i64 0, .int .i64 16]) ∧ Q w w' := by
  have k1 := fun w2 => ris_bad s p c t h w2
  clear h
  go_enter Try.func27, Try.ntmps27
  go_wp2_with (go_at_call 29; refine (k1 _).mono ?_; rintro e w1 ⟨rfl, hq1⟩)
  go_ret2
  exact ⟨rfl, by repeat (first | exact Q.refl _ | assumption | refine Q.alloc ?_ _ | refine Q.drew ?_ | refine Q.drewN ?_ _ | refine Q.trans ?_ (by assumption))⟩
theorem rindex_time (s p c t : Int) (h : Ev.Ok s p c) (ht : ¬ Ev.TOk t) (w : World) :
    Calls Try.prog 27 #[.agg #[.int .i64 s, .int .i64 p, .int .i64 c], .int .i64 t] w fun e w' => e = .returned (.tuple #[.int .i64 0, .int .i64 14]) ∧ Q w w' := by
  have k1 := fun w2 => ris_time s p c t h ht w2
  clear h ht
  go_enter Try.func27, Try.ntmps27
  go_wp2_with (go_at_call 29; refine (k1 _).mono ?_; rintro e w1 ⟨rfl, hq1⟩)
  go_ret2
  exact ⟨rfl, by repeat (first | exact Q.refl _ | assumption | refine Q.alloc ?_ _ | refine Q.drew ?_ | refine Q.drewN ?_ _ | refine Q.trans ?_ (by assumption))⟩
theorem rindex_out (s p c t : Int) (h : Ev.Ok s p c) (ht : Ev.TOk t) (hi : Ev.isB s p c t = false) (w : World) :
    Calls Try.prog 27 #[.agg #[.int .i64 s, .int .i64 p, .int .i64 c], .int .i64 t] w fun e w' => e = .returned (.tuple #[.int .i64 0, .int .i64 5]) ∧ Q w w' := by
  have k1 := fun w2 => ris_ok s p c t h ht w2
  rw [hi] at k1
  clear h ht hi
  go_enter Try.func27, Try.ntmps27
  go_wp2_with (go_at_call 29; refine (k1 _).mono ?_; rintro e w1 ⟨rfl, hq1⟩)
  go_ret2
  exact ⟨rfl, by repeat (first | exact Q.refl _ | assumption | refine Q.alloc ?_ _ | refine Q.drew ?_ | refine Q.drewN ?_ _ | refine Q.trans ?_ (by assumption))⟩
theorem rindex_in (s p c t : Int) (h : Ev.Ok s p c) (ht : Ev.TOk t) (hi : Ev.isB s p c t = true) (w : World) :
    Calls Try.prog 27 #[.agg #[.int .i64 s, .int .i64 p, .int .i64 c], .int .i64 t] w fun e w' => e = .returned (.tuple #[.int .i64 (Ev.bef s p c t), .int .i64 0]) ∧ Q w w' := by
  have k1 := fun w2 => ris_ok s p c t h ht w2
  rw [hi] at k1
  rw [← Ev.is_idx h hi]
  have hst : s ≤ t := by unfold Ev.isB at hi; exact (of_decide_eq_true hi).1
  obtain ⟨h1, h2, h3, h4, h5, h6⟩ := h
  obtain ⟨t1, t2⟩ := ht
  clear hi
  go_enter Try.func27, Try.ntmps27
  go_wp2_with (go_at_call 29; refine (k1 _).mono ?_; rintro e w1 ⟨rfl, hq1⟩; obtain ⟨x0, x1, x2, x3⟩ := box3 hq1)
  go_ret2
  exact ⟨rfl, by repeat (first | exact Q.refl _ | assumption | refine Q.alloc ?_ _ | refine Q.drew ?_ | refine Q.drewN ?_ _ | refine Q.trans ?_ (by assumption))⟩
theorem rlast_bad (s p c : Int) (h : ¬ Ev.Ok s p c) (w : World) :
    Calls Try.prog 28 #[.agg #[.int .i64 s, .int .i64 p, .int .i64 c]] w fun e w' => e = .returned (.tuple #[.int .i64 0, .bool false, .int .i64 16]) ∧ Q w w' := by
  have k1 := fun w2 => rcheck_bad s p c h w2
  clear h
  go_enter Try.func28, Try.ntmps28
  go_wp2_with (go_at_call 33; refine (k1 _).mono ?_; rintro e w1 ⟨rfl, hq1⟩)
  go_ret3
  exact ⟨rfl, by repeat (first | exact Q.refl _ | assumption | refine Q.alloc ?_ _ | refine Q.drew ?_ | refine Q.drewN ?_ _ | refine Q.trans ?_ (by assumption))⟩
set_option maxHeartbeats 800000 in
theorem rlast_ok (s p c : Int) (h : Ev.Ok s p c) (w : World) :
    Calls Try.prog 28 #[.agg #[.int .i64 s, .int .i64 p, .int .i64 c]] w fun e w' => e = .returned (.tuple #[.int .i64 (s + (Ev.num s p c - 1) * p), .bool true, .int .i64 0]) ∧ Q w w' := by
  have hp := Ev.num_pos h
  have hm := Ev.num_max h
  have k1 := fun w2 => rcheck_ok s p c h w2
  have k3 := fun w2 => rnum_any s p c h w2
  have htm := tm_bd h (k := Ev.num s p c - 1) (by omega) (by omega)
  have hs := And.intro h.1 h.2.1
  obtain ⟨N, hn⟩ : ∃ N, Ev.num s p c = N := ⟨_, rfl⟩
  rw [hn] at k3 hp hm htm ⊢
  obtain ⟨N1, hn1⟩ : ∃ N1, N - 1 = N1 := ⟨_, rfl⟩
  rw [hn1] at htm ⊢
  obtain ⟨U, hU⟩ : ∃ U, N1 * p = U := ⟨_, rfl⟩
  rw [hU] at htm ⊢
  have wr1 : IntKind.i64.wrap N1 = N1 := IntWalk.i64_in _ (by omega)
  have wr2 : IntKind.i64.wrap U = U := IntWalk.i64_in _ (by omega)
  have wr3 : IntKind.i64.wrap (s + U) = s + U := IntWalk.i64_in _ (by omega)
  clear hn h
  go_enter Try.func28, Try.ntmps28
  go_wp2_with (go_at_call 33; refine (k1 _).mono ?_; rintro e w1 ⟨rfl, hq1⟩; obtain ⟨x0, x1, x2, x3⟩ := box3 hq1)
  go_region_held3 (fun w' => w'.cell? ⟨w.heap.size, 0, none⟩ = some (.int .i64 s) ∧ w'.cell? ⟨w.heap.size, 1, none⟩ = some (.int .i64 p) ∧ w'.cell? ⟨w.heap.size, 2, none⟩ = some (.int .i64 c)) (go_keep) (first
    | (go_at_call 46; refine (k3 _).mono ?_; rintro e w3 ⟨rfl, hq3⟩; obtain ⟨z0, z1, z2, z3⟩ := box3 (hq1.drew.trans hq3)))
  all_goals
    go_wp2_with fail
    go_ret3
    exact ⟨rfl, by repeat (first | exact Q.refl _ | assumption | refine Q.alloc ?_ _ | refine Q.drew ?_ | refine Q.drewN ?_ _ | refine Q.trans ?_ (by assumption))⟩
end Go.Proofs.Ytfhplhfgcanfbaa
