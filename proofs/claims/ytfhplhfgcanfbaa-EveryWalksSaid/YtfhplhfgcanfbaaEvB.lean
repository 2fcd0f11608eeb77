/- The contract of every.of. -/
import Derived.Test.YtfhplhfgcanfbaaEvA
namespace Go.Proofs.Ytfhplhfgcanfbaa
open Go.RowKit
set_option linter.unusedVariables false
theorem qcell {W w1 : World} (hb : Q W w1) : (∀ b o, b < W.heap.size → w1.cell? ⟨b, o, none⟩ = W.cell? ⟨b, o, none⟩) ∧ (∀ b o, b < W.heap.size → w1.frozen? ⟨b, o, none⟩ = W.frozen? ⟨b, o, none⟩) ∧ W.heap.size ≤ w1.heap.size :=
  ⟨fun b o h => hb.cell (p := ⟨b, o, none⟩) h, fun b o h => hb.frozen (p := ⟨b, o, none⟩) h, hb.size⟩
theorem of_bad (s p c : Int) (v : Value) (h : ¬ Ev.Ok s p c) (w : World) :
    Calls Try.prog 34 #[.agg #[.int .i64 s, .int .i64 p, .int .i64 c], v] w fun e w' => e = .returned (.tuple #[.agg #[.int .i64 0, .int .i64 0, .int .i64 0, .int .i64 0], .int .i64 16]) ∧ Q w w' := by
  have k1 := fun w2 => check_bad s p c h w2
  clear h
  go_enter Try.func34, Try.ntmps34
  go_wp2_with (go_at_call 19; refine (k1 _).mono ?_; rintro e w1 ⟨rfl, hq1⟩; obtain ⟨x1, x2, x3⟩ := qcell hq1)
  refine bodyPost_ret (v := .tuple #[.agg #[.int .i64 0, .int .i64 0, .int .i64 0, .int .i64 0], .int .i64 16]) (by simp [results, Try.results34, go_sem, x1]) rfl ⟨rfl, ?_⟩
  exact by repeat (first | exact Q.refl _ | assumption | refine Q.alloc ?_ _ | refine Q.drew ?_ | refine Q.drewN ?_ _ | refine Q.setCell ?_ (by first | exact Nat.le_refl _ | (simp; done) | (simp at *; omega)) _ | refine Q.trans ?_ (by assumption))
theorem box3b {w w2 : World} {a b c : Value} {T : TypeId} {o : Obj} (hq : Q ((w.alloc (.cells #[a, b, c] T)).alloc o) w2) :
    w2.cell? ⟨w.heap.size, 0, none⟩ = some a ∧ w2.cell? ⟨w.heap.size, 1, none⟩ = some b ∧ w2.cell? ⟨w.heap.size, 2, none⟩ = some c := by
  have hc : ∀ j, w2.cell? ⟨w.heap.size, j, none⟩ = (w.alloc (.cells #[a, b, c] T)).cell? ⟨w.heap.size, j, none⟩ := fun j => (hq.cell (p := ⟨w.heap.size, j, none⟩) (by simp; omega)).trans (by simp)
  exact ⟨(hc 0).trans (by simp), (hc 1).trans (by simp), (hc 2).trans (by simp)⟩
set_option maxHeartbeats 1600000 in
theorem of_none (s p c : Int) (h : Ev.Ok s p c) (w : World) :
    Calls Try.prog 34 #[.agg #[.int .i64 s, .int .i64 p, .int .i64 c], .slice none 0 0] w fun e w' => e = .returned (.tuple #[.agg #[.int .i64 s, .int .i64 p, .int .i64 c, .int .i64 (Ev.num s p c)], .int .i64 0]) ∧ Q w w' := by
  have k1 := fun w2 => check_ok s p c h w2
  obtain ⟨h1, h2, h3, h4, h5, h6⟩ := h
  have hd : 0 ≤ (253402300799 - s) / p := Int.ediv_nonneg (by omega) (by omega)
  have hd2 : (253402300799 - s) / p ≤ 253402300799 - s := Int.ediv_le_self _ (by omega)
  obtain ⟨n, hn⟩ : ∃ n, Ev.num s p c = n := ⟨_, rfl⟩
  have hn2 : n = if 0 < c ∧ c < 1 + (253402300799 - s) / p then c else 1 + (253402300799 - s) / p := hn.symm
  rw [hn]
  clear hn
  have HN := Lib.hid hn2
  clear hn2
  have hp0 : (p = 0) = False := by simp; omega
  rcases (show (0 < c ∧ c < 1 + (253402300799 - s) / p) ∨ (0 < c ∧ 1 + (253402300799 - s) / p ≤ c) ∨ c = 0 by omega) with ⟨hc, hl⟩ | ⟨hc, hl⟩ | rfl
  · have hx : n = c := by have := HN.out; split at this <;> omega
    clear HN
    rw [hx]; clear hx
    go_enter Try.func34, Try.ntmps34
    go_wp2_with (go_at_call 19; refine (k1 _).mono ?_; rintro e w1 ⟨rfl, hq1⟩; obtain ⟨x1, x2, x3⟩ := qcell hq1; obtain ⟨y1, y2, y3⟩ := box3b hq1; have hz : w.heap.size + 1 < w1.heap.size := by { have := hq1.size; simp at this; omega }; have hz0 : w.heap.size < w1.heap.size := (by omega))
    refine wp_loop_rounds 1 ?_; rw [rounds_succ]
    go_wp2_with fail
    go_region
    all_goals
      go_wp2_with fail
      refine bodyPost_ret (v := .tuple #[.agg #[.int .i64 s, .int .i64 p, .int .i64 c, .int .i64 (c)], .int .i64 0]) (by simp [results, Try.results34, go_sem, x1, hz]) rfl ⟨rfl, ?_⟩
      exact by repeat (first | exact Q.refl _ | assumption | refine Q.alloc ?_ _ | refine Q.drew ?_ | refine Q.drewN ?_ _ | refine Q.setCell ?_ (by first | exact Nat.le_refl _ | (simp; done) | (simp at *; omega)) _ | refine Q.trans ?_ (by assumption))
  · have hx : n = 1 + (253402300799 - s) / p := by have := HN.out; split at this <;> omega
    clear HN
    rw [hx]; clear hx
    go_enter Try.func34, Try.ntmps34
    go_wp2_with (go_at_call 19; refine (k1 _).mono ?_; rintro e w1 ⟨rfl, hq1⟩; obtain ⟨x1, x2, x3⟩ := qcell hq1; obtain ⟨y1, y2, y3⟩ := box3b hq1; have hz : w.heap.size + 1 < w1.heap.size := by { have := hq1.size; simp at this; omega }; have hz0 : w.heap.size < w1.heap.size := (by omega))
    refine wp_loop_rounds 1 ?_; rw [rounds_succ]
    go_wp2_with fail
    go_region
    all_goals
      go_wp2_with fail
      refine bodyPost_ret (v := .tuple #[.agg #[.int .i64 s, .int .i64 p, .int .i64 c, .int .i64 (1 + (253402300799 - s) / p)], .int .i64 0]) (by simp [results, Try.results34, go_sem, x1, hz]) rfl ⟨rfl, ?_⟩
      exact by repeat (first | exact Q.refl _ | assumption | refine Q.alloc ?_ _ | refine Q.drew ?_ | refine Q.drewN ?_ _ | refine Q.setCell ?_ (by first | exact Nat.le_refl _ | (simp; done) | (simp at *; omega)) _ | refine Q.trans ?_ (by assumption))
  · have hx : n = 1 + (253402300799 - s) / p := by have := HN.out; split at this <;> omega
    clear HN
    rw [hx]; clear hx
    go_enter Try.func34, Try.ntmps34
    go_wp2_with (go_at_call 19; refine (k1 _).mono ?_; rintro e w1 ⟨rfl, hq1⟩; obtain ⟨x1, x2, x3⟩ := qcell hq1; obtain ⟨y1, y2, y3⟩ := box3b hq1; have hz : w.heap.size + 1 < w1.heap.size := by { have := hq1.size; simp at this; omega }; have hz0 : w.heap.size < w1.heap.size := (by omega))
    refine wp_loop_rounds 1 ?_; rw [rounds_succ]
    go_wp2_with fail
    go_region
    all_goals
      go_wp2_with fail
      refine bodyPost_ret (v := .tuple #[.agg #[.int .i64 s, .int .i64 p, .int .i64 0, .int .i64 (1 + (253402300799 - s) / p)], .int .i64 0]) (by simp [results, Try.results34, go_sem, x1, hz]) rfl ⟨rfl, ?_⟩
      exact by repeat (first | exact Q.refl _ | assumption | refine Q.alloc ?_ _ | refine Q.drew ?_ | refine Q.drewN ?_ _ | refine Q.setCell ?_ (by first | exact Nat.le_refl _ | (simp; done) | (simp at *; omega)) _ | refine Q.trans ?_ (by assumption))
set_option maxHeartbeats 1600000 in
theorem of_one (s p c : Int) (h : Ev.Ok s p c) (t : Int) (ht : Ev.TOk t) (b : Nat) (w : World) (hb0 : w.cell? ⟨b, 0, none⟩ = some (.int .i64 t)) (hbs : b < w.heap.size) :
    Calls Try.prog 34 #[.agg #[.int .i64 s, .int .i64 p, .int .i64 c], .slice (some ⟨b, 0, none⟩) 1 1] w fun e w' => e = .returned (.tuple #[.agg #[.int .i64 s, .int .i64 p, .int .i64 c, .int .i64 (Ev.num s p c)], .int .i64 0]) ∧ Q w w' := by
  have k1 := fun w2 => check_ok s p c h w2
  obtain ⟨h1, h2, h3, h4, h5, h6⟩ := h
  obtain ⟨t1, t2⟩ := ht
  have hd : 0 ≤ (253402300799 - s) / p := Int.ediv_nonneg (by omega) (by omega)
  have hd2 : (253402300799 - s) / p ≤ 253402300799 - s := Int.ediv_le_self _ (by omega)
  obtain ⟨n, hn⟩ : ∃ n, Ev.num s p c = n := ⟨_, rfl⟩
  have hn2 : n = if 0 < c ∧ c < 1 + (253402300799 - s) / p then c else 1 + (253402300799 - s) / p := hn.symm
  rw [hn]
  clear hn
  have HN := Lib.hid hn2
  clear hn2
  have hp0 : (p = 0) = False := by simp; omega
  rcases (show (0 < c ∧ c < 1 + (253402300799 - s) / p) ∨ (0 < c ∧ 1 + (253402300799 - s) / p ≤ c) ∨ c = 0 by omega) with ⟨hc, hl⟩ | ⟨hc, hl⟩ | rfl
  · have hx : n = c := by have := HN.out; split at this <;> omega
    clear HN
    rw [hx]; clear hx
    go_enter Try.func34, Try.ntmps34
    go_wp2_with (go_at_call 19; refine (k1 _).mono ?_; rintro e w1 ⟨rfl, hq1⟩; obtain ⟨x1, x2, x3⟩ := qcell hq1; obtain ⟨y1, y2, y3⟩ := box3b hq1; have hz : w.heap.size + 1 < w1.heap.size := by { have := hq1.size; simp at this; omega }; have hz0 : w.heap.size < w1.heap.size := (by omega); have z0 : w1.cell? ⟨b, 0, none⟩ = some (.int .i64 t) := (Q.cell (p := ⟨b, 0, none⟩) ((((Q.refl w).alloc _).alloc _).trans hq1) hbs).trans hb0)
    refine wp_loop_rounds 2 ?_; rw [rounds_succ]
    go_wp2_with fail
    rw [rounds_succ]
    go_wp2_with fail
    go_region
    all_goals
      go_wp2_with fail
      refine bodyPost_ret (v := .tuple #[.agg #[.int .i64 s, .int .i64 p, .int .i64 c, .int .i64 (c)], .int .i64 0]) (by simp [results, Try.results34, go_sem, x1, hz]) rfl ⟨rfl, ?_⟩
      exact by repeat (first | exact Q.refl _ | assumption | refine Q.alloc ?_ _ | refine Q.drew ?_ | refine Q.drewN ?_ _ | refine Q.setCell ?_ (by first | exact Nat.le_refl _ | (simp; done) | (simp at *; omega)) _ | refine Q.trans ?_ (by assumption))
  · have hx : n = 1 + (253402300799 - s) / p := by have := HN.out; split at this <;> omega
    clear HN
    rw [hx]; clear hx
    go_enter Try.func34, Try.ntmps34
    go_wp2_with (go_at_call 19; refine (k1 _).mono ?_; rintro e w1 ⟨rfl, hq1⟩; obtain ⟨x1, x2, x3⟩ := qcell hq1; obtain ⟨y1, y2, y3⟩ := box3b hq1; have hz : w.heap.size + 1 < w1.heap.size := by { have := hq1.size; simp at this; omega }; have hz0 : w.heap.size < w1.heap.size := (by omega); have z0 : w1.cell? ⟨b, 0, none⟩ = some (.int .i64 t) := (Q.cell (p := ⟨b, 0, none⟩) ((((Q.refl w).alloc _).alloc _).trans hq1) hbs).trans hb0)
    refine wp_loop_rounds 2 ?_; rw [rounds_succ]
    go_wp2_with fail
    rw [rounds_succ]
    go_wp2_with fail
    go_region
    all_goals
      go_wp2_with fail
      refine bodyPost_ret (v := .tuple #[.agg #[.int .i64 s, .int .i64 p, .int .i64 c, .int .i64 (1 + (253402300799 - s) / p)], .int .i64 0]) (by simp [results, Try.results34, go_sem, x1, hz]) rfl ⟨rfl, ?_⟩
      exact by repeat (first | exact Q.refl _ | assumption | refine Q.alloc ?_ _ | refine Q.drew ?_ | refine Q.drewN ?_ _ | refine Q.setCell ?_ (by first | exact Nat.le_refl _ | (simp; done) | (simp at *; omega)) _ | refine Q.trans ?_ (by assumption))
  · have hx : n = 1 + (253402300799 - s) / p := by have := HN.out; split at this <;> omega
    clear HN
    rw [hx]; clear hx
    go_enter Try.func34, Try.ntmps34
    go_wp2_with (go_at_call 19; refine (k1 _).mono ?_; rintro e w1 ⟨rfl, hq1⟩; obtain ⟨x1, x2, x3⟩ := qcell hq1; obtain ⟨y1, y2, y3⟩ := box3b hq1; have hz : w.heap.size + 1 < w1.heap.size := by { have := hq1.size; simp at this; omega }; have hz0 : w.heap.size < w1.heap.size := (by omega); have z0 : w1.cell? ⟨b, 0, none⟩ = some (.int .i64 t) := (Q.cell (p := ⟨b, 0, none⟩) ((((Q.refl w).alloc _).alloc _).trans hq1) hbs).trans hb0)
    refine wp_loop_rounds 2 ?_; rw [rounds_succ]
    go_wp2_with fail
    rw [rounds_succ]
    go_wp2_with fail
    go_region
    all_goals
      go_wp2_with fail
      refine bodyPost_ret (v := .tuple #[.agg #[.int .i64 s, .int .i64 p, .int .i64 0, .int .i64 (1 + (253402300799 - s) / p)], .int .i64 0]) (by simp [results, Try.results34, go_sem, x1, hz]) rfl ⟨rfl, ?_⟩
      exact by repeat (first | exact Q.refl _ | assumption | refine Q.alloc ?_ _ | refine Q.drew ?_ | refine Q.drewN ?_ _ | refine Q.setCell ?_ (by first | exact Nat.le_refl _ | (simp; done) | (simp at *; omega)) _ | refine Q.trans ?_ (by assumption))
set_option maxHeartbeats 1600000 in
theorem of_one_bad (s p c : Int) (h : Ev.Ok s p c) (t : Int) (ht : ¬ Ev.TOk t) (b : Nat) (w : World) (hb0 : w.cell? ⟨b, 0, none⟩ = some (.int .i64 t)) (hbs : b < w.heap.size) :
    Calls Try.prog 34 #[.agg #[.int .i64 s, .int .i64 p, .int .i64 c], .slice (some ⟨b, 0, none⟩) 1 1] w fun e w' => e = .returned (.tuple #[.agg #[.int .i64 0, .int .i64 0, .int .i64 0, .int .i64 0], .int .i64 14]) ∧ Q w w' := by
  have k1 := fun w2 => check_ok s p c h w2
  obtain ⟨h1, h2, h3, h4, h5, h6⟩ := h
  have hbad : t < 0 ∨ 253402300799 < t := by unfold Ev.TOk at ht; omega
  clear ht
  rcases hbad with hb | hb
  all_goals
    go_enter Try.func34, Try.ntmps34
    go_wp2_with (go_at_call 19; refine (k1 _).mono ?_; rintro e w1 ⟨rfl, hq1⟩; obtain ⟨x1, x2, x3⟩ := qcell hq1; obtain ⟨y1, y2, y3⟩ := box3b hq1; have hz : w.heap.size + 1 < w1.heap.size := by { have := hq1.size; simp at this; omega }; have hz0 : w.heap.size < w1.heap.size := (by omega); have z0 : w1.cell? ⟨b, 0, none⟩ = some (.int .i64 t) := (Q.cell (p := ⟨b, 0, none⟩) ((((Q.refl w).alloc _).alloc _).trans hq1) hbs).trans hb0)
    refine wp_loop_rounds 1 ?_; rw [rounds_succ]
    go_wp2_with fail
    refine bodyPost_ret (v := .tuple #[.agg #[.int .i64 0, .int .i64 0, .int .i64 0, .int .i64 0], .int .i64 14]) (by simp [results, Try.results34, go_sem, x1]) rfl ⟨rfl, ?_⟩
    exact by repeat (first | exact Q.refl _ | assumption | refine Q.alloc ?_ _ | refine Q.drew ?_ | refine Q.drewN ?_ _ | refine Q.setCell ?_ (by first | exact Nat.le_refl _ | (simp; done) | (simp at *; omega)) _ | refine Q.trans ?_ (by assumption))
set_option maxHeartbeats 1600000 in
theorem of_two (s p c : Int) (h : Ev.Ok s p c) (t u : Int) (ht : Ev.TOk t) (hu : Ev.TOk u) (b : Nat) (w : World) (hb0 : w.cell? ⟨b, 0, none⟩ = some (.int .i64 t)) (hb1 : w.cell? ⟨b, 1, none⟩ = some (.int .i64 u)) (hbs : b < w.heap.size) :
    Calls Try.prog 34 #[.agg #[.int .i64 s, .int .i64 p, .int .i64 c], .slice (some ⟨b, 0, none⟩) 2 2] w fun e w' => e = .returned (.tuple #[.agg #[.int .i64 s, .int .i64 p, .int .i64 c, .int .i64 (Ev.num s p c)], .int .i64 0]) ∧ Q w w' := by
  have k1 := fun w2 => check_ok s p c h w2
  obtain ⟨h1, h2, h3, h4, h5, h6⟩ := h
  obtain ⟨t1, t2⟩ := ht
  obtain ⟨u1, u2⟩ := hu
  have hd : 0 ≤ (253402300799 - s) / p := Int.ediv_nonneg (by omega) (by omega)
  have hd2 : (253402300799 - s) / p ≤ 253402300799 - s := Int.ediv_le_self _ (by omega)
  obtain ⟨n, hn⟩ : ∃ n, Ev.num s p c = n := ⟨_, rfl⟩
  have hn2 : n = if 0 < c ∧ c < 1 + (253402300799 - s) / p then c else 1 + (253402300799 - s) / p := hn.symm
  rw [hn]
  clear hn
  have HN := Lib.hid hn2
  clear hn2
  have hp0 : (p = 0) = False := by simp; omega
  rcases (show (0 < c ∧ c < 1 + (253402300799 - s) / p) ∨ (0 < c ∧ 1 + (253402300799 - s) / p ≤ c) ∨ c = 0 by omega) with ⟨hc, hl⟩ | ⟨hc, hl⟩ | rfl
  · have hx : n = c := by have := HN.out; split at this <;> omega
    clear HN
    rw [hx]; clear hx
    go_enter Try.func34, Try.ntmps34
    go_wp2_with (go_at_call 19; refine (k1 _).mono ?_; rintro e w1 ⟨rfl, hq1⟩; obtain ⟨x1, x2, x3⟩ := qcell hq1; obtain ⟨y1, y2, y3⟩ := box3b hq1; have hz : w.heap.size + 1 < w1.heap.size := by { have := hq1.size; simp at this; omega }; have hz0 : w.heap.size < w1.heap.size := (by omega); have z0 : w1.cell? ⟨b, 0, none⟩ = some (.int .i64 t) := (Q.cell (p := ⟨b, 0, none⟩) ((((Q.refl w).alloc _).alloc _).trans hq1) hbs).trans hb0; have z1 : w1.cell? ⟨b, 1, none⟩ = some (.int .i64 u) := (Q.cell (p := ⟨b, 1, none⟩) ((((Q.refl w).alloc _).alloc _).trans hq1) hbs).trans hb1)
    refine wp_loop_rounds 3 ?_; rw [rounds_succ]
    go_wp2_with fail
    rw [rounds_succ]
    go_wp2_with fail
    rw [rounds_succ]
    go_wp2_with fail
    go_region
    all_goals
      go_wp2_with fail
      refine bodyPost_ret (v := .tuple #[.agg #[.int .i64 s, .int .i64 p, .int .i64 c, .int .i64 (c)], .int .i64 0]) (by simp [results, Try.results34, go_sem, x1, hz]) rfl ⟨rfl, ?_⟩
      exact by repeat (first | exact Q.refl _ | assumption | refine Q.alloc ?_ _ | refine Q.drew ?_ | refine Q.drewN ?_ _ | refine Q.setCell ?_ (by first | exact Nat.le_refl _ | (simp; done) | (simp at *; omega)) _ | refine Q.trans ?_ (by assumption))
  · have hx : n = 1 + (253402300799 - s) / p := by have := HN.out; split at this <;> omega
    clear HN
    rw [hx]; clear hx
    go_enter Try.func34, Try.ntmps34
    go_wp2_with (go_at_call 19; refine (k1 _).mono ?_; rintro e w1 ⟨rfl, hq1⟩; obtain ⟨x1, x2, x3⟩ := qcell hq1; obtain ⟨y1, y2, y3⟩ := box3b hq1; have hz : w.heap.size + 1 < w1.heap.size := by { have := hq1.size; simp at this; omega }; have hz0 : w.heap.size < w1.heap.size := (by omega); have z0 : w1.cell? ⟨b, 0, none⟩ = some (.int .i64 t) := (Q.cell (p := ⟨b, 0, none⟩) ((((Q.refl w).alloc _).alloc _).trans hq1) hbs).trans hb0; have z1 : w1.cell? ⟨b, 1, none⟩ = some (.int .i64 u) := (Q.cell (p := ⟨b, 1, none⟩) ((((Q.refl w).alloc _).alloc _).trans hq1) hbs).trans hb1)
    refine wp_loop_rounds 3 ?_; rw [rounds_succ]
    go_wp2_with fail
    rw [rounds_succ]
    go_wp2_with fail
    rw [rounds_succ]
    go_wp2_with fail
    go_region
    all_goals
      go_wp2_with fail
      refine bodyPost_ret (v := .tuple #[.agg #[.int .i64 s, .int .i64 p, .int .i64 c, .int .i64 (1 + (253402300799 - s) / p)], .int .i64 0]) (by simp [results, Try.results34, go_sem, x1, hz]) rfl ⟨rfl, ?_⟩
      exact by repeat (first | exact Q.refl _ | assumption | refine Q.alloc ?_ _ | refine Q.drew ?_ | refine Q.drewN ?_ _ | refine Q.setCell ?_ (by first | exact Nat.le_refl _ | (simp; done) | (simp at *; omega)) _ | refine Q.trans ?_ (by assumption))
  · have hx : n = 1 + (253402300799 - s) / p := by have := HN.out; split at this <;> omega
    clear HN
    rw [hx]; clear hx
    go_enter Try.func34, Try.ntmps34
    go_wp2_with (go_at_call 19; refine (k1 _).mono ?_; rintro e w1 ⟨rfl, hq1⟩; obtain ⟨x1, x2, x3⟩ := qcell hq1; obtain ⟨y1, y2, y3⟩ := box3b hq1; have hz : w.heap.size + 1 < w1.heap.size := by { have := hq1.size; simp at this; omega }; have hz0 : w.heap.size < w1.heap.size := (by omega); have z0 : w1.cell? ⟨b, 0, none⟩ = some (.int .i64 t) := (Q.cell (p := ⟨b, 0, none⟩) ((((Q.refl w).alloc _).alloc _).trans hq1) hbs).trans hb0; have z1 : w1.cell? ⟨b, 1, none⟩ = some (.int .i64 u) := (Q.cell (p := ⟨b, 1, none⟩) ((((Q.refl w).alloc _).alloc _).trans hq1) hbs).trans hb1)
    refine wp_loop_rounds 3 ?_; rw [rounds_succ]
    go_wp2_with fail
    rw [rounds_succ]
    go_wp2_with fail
    rw [rounds_succ]
    go_wp2_with fail
    go_region
    all_goals
      go_wp2_with fail
      refine bodyPost_ret (v := .tuple #[.agg #[.int .i64 s, .int .i64 p, .int .i64 0, .int .i64 (1 + (253402300799 - s) / p)], .int .i64 0]) (by simp [results, Try.results34, go_sem, x1, hz]) rfl ⟨rfl, ?_⟩
      exact by repeat (first | exact Q.refl _ | assumption | refine Q.alloc ?_ _ | refine Q.drew ?_ | refine Q.drewN ?_ _ | refine Q.setCell ?_ (by first | exact Nat.le_refl _ | (simp; done) | (simp at *; omega)) _ | refine Q.trans ?_ (by assumption))
set_option maxHeartbeats 1600000 in
theorem of_two_bad1 (s p c : Int) (h : Ev.Ok s p c) (t u : Int) (ht : ¬ Ev.TOk t) (b : Nat) (w : World) (hb0 : w.cell? ⟨b, 0, none⟩ = some (.int .i64 t)) (hb1 : w.cell? ⟨b, 1, none⟩ = some (.int .i64 u)) (hbs : b < w.heap.size) :
    Calls Try.prog 34 #[.agg #[.int .i64 s, .int .i64 p, .int .i64 c], .slice (some ⟨b, 0, none⟩) 2 2] w fun e w' => e = .returned (.tuple #[.agg #[.int .i64 0, .int .i64 0, .int .i64 0, .int .i64 0], .int .i64 14]) ∧ Q w w' := by
  have k1 := fun w2 => check_ok s p c h w2
  obtain ⟨h1, h2, h3, h4, h5, h6⟩ := h
  have hbad : t < 0 ∨ 253402300799 < t := by unfold Ev.TOk at ht; omega
  clear ht
  rcases hbad with hb | hb
  all_goals
    go_enter Try.func34, Try.ntmps34
    go_wp2_with (go_at_call 19; refine (k1 _).mono ?_; rintro e w1 ⟨rfl, hq1⟩; obtain ⟨x1, x2, x3⟩ := qcell hq1; obtain ⟨y1, y2, y3⟩ := box3b hq1; have hz : w.heap.size + 1 < w1.heap.size := by { have := hq1.size; simp at this; omega }; have hz0 : w.heap.size < w1.heap.size := (by omega); have z0 : w1.cell? ⟨b, 0, none⟩ = some (.int .i64 t) := (Q.cell (p := ⟨b, 0, none⟩) ((((Q.refl w).alloc _).alloc _).trans hq1) hbs).trans hb0; have z1 : w1.cell? ⟨b, 1, none⟩ = some (.int .i64 u) := (Q.cell (p := ⟨b, 1, none⟩) ((((Q.refl w).alloc _).alloc _).trans hq1) hbs).trans hb1)
    refine wp_loop_rounds 1 ?_; rw [rounds_succ]
    go_wp2_with fail
    refine bodyPost_ret (v := .tuple #[.agg #[.int .i64 0, .int .i64 0, .int .i64 0, .int .i64 0], .int .i64 14]) (by simp [results, Try.results34, go_sem, x1]) rfl ⟨rfl, ?_⟩
    exact by repeat (first | exact Q.refl _ | assumption | refine Q.alloc ?_ _ | refine Q.drew ?_ | refine Q.drewN ?_ _ | refine Q.setCell ?_ (by first | exact Nat.le_refl _ | (simp; done) | (simp at *; omega)) _ | refine Q.trans ?_ (by assumption))
set_option maxHeartbeats 1600000 in
theorem of_two_bad2 (s p c : Int) (h : Ev.Ok s p c) (t u : Int) (ht : Ev.TOk t) (hu : ¬ Ev.TOk u) (b : Nat) (w : World) (hb0 : w.cell? ⟨b, 0, none⟩ = some (.int .i64 t)) (hb1 : w.cell? ⟨b, 1, none⟩ = some (.int .i64 u)) (hbs : b < w.heap.size) :
    Calls Try.prog 34 #[.agg #[.int .i64 s, .int .i64 p, .int .i64 c], .slice (some ⟨b, 0, none⟩) 2 2] w fun e w' => e = .returned (.tuple #[.agg #[.int .i64 0, .int .i64 0, .int .i64 0, .int .i64 0], .int .i64 14]) ∧ Q w w' := by
  have k1 := fun w2 => check_ok s p c h w2
  obtain ⟨h1, h2, h3, h4, h5, h6⟩ := h
  obtain ⟨t1, t2⟩ := ht
  have hbad : u < 0 ∨ 253402300799 < u := by unfold Ev.TOk at hu; omega
  clear hu
  rcases hbad with hb | hb
  all_goals
    go_enter Try.func34, Try.ntmps34
    go_wp2_with (go_at_call 19; refine (k1 _).mono ?_; rintro e w1 ⟨rfl, hq1⟩; obtain ⟨x1, x2, x3⟩ := qcell hq1; obtain ⟨y1, y2, y3⟩ := box3b hq1; have hz : w.heap.size + 1 < w1.heap.size := by { have := hq1.size; simp at this; omega }; have hz0 : w.heap.size < w1.heap.size := (by omega); have z0 : w1.cell? ⟨b, 0, none⟩ = some (.int .i64 t) := (Q.cell (p := ⟨b, 0, none⟩) ((((Q.refl w).alloc _).alloc _).trans hq1) hbs).trans hb0; have z1 : w1.cell? ⟨b, 1, none⟩ = some (.int .i64 u) := (Q.cell (p := ⟨b, 1, none⟩) ((((Q.refl w).alloc _).alloc _).trans hq1) hbs).trans hb1)
    refine wp_loop_rounds 2 ?_; rw [rounds_succ]
    go_wp2_with fail
    rw [rounds_succ]
    go_wp2_with fail
    refine bodyPost_ret (v := .tuple #[.agg #[.int .i64 0, .int .i64 0, .int .i64 0, .int .i64 0], .int .i64 14]) (by simp [results, Try.results34, go_sem, x1]) rfl ⟨rfl, ?_⟩
    exact by repeat (first | exact Q.refl _ | assumption | refine Q.alloc ?_ _ | refine Q.drew ?_ | refine Q.drewN ?_ _ | refine Q.setCell ?_ (by first | exact Nat.le_refl _ | (simp; done) | (simp at *; omega)) _ | refine Q.trans ?_ (by assumption))
end Go.Proofs.Ytfhplhfgcanfbaa
