/- The contracts of every's small functions: Check, of, at, before, has; and the document's Check, number, first, upto. -/
import Derived.Test.YtfhplhfgcanfbaaBase
namespace Go.Proofs.Ytfhplhfgcanfbaa
open Go.RowKit
set_option linter.unusedVariables false
theorem check_ok (s p c : Int) (h : Ev.Ok s p c) (w : World) :
    Calls Try.prog 19 #[.agg #[.int .i64 s, .int .i64 p, .int .i64 c]] w fun e w' => e = .returned (.int .i64 0) ∧ Q w w' := by
  unfold Ev.Ok at h
  obtain ⟨h1, h2, h3, h4, h5, h6⟩ := h
  go_enter Try.func19, Try.ntmps19
  go_wp2
  go_ret
  exact ⟨rfl, (Q.refl _).alloc _⟩
theorem check_bad (s p c : Int) (h : ¬ Ev.Ok s p c) (w : World) :
    Calls Try.prog 19 #[.agg #[.int .i64 s, .int .i64 p, .int .i64 c]] w fun e w' => e = .returned (.int .i64 16) ∧ Q w w' := by
  unfold Ev.Ok at h
  by_cases h1 : s < 0
  · clear h
    go_enter Try.func19, Try.ntmps19
    go_wp2
    go_ret
    exact ⟨rfl, (Q.refl _).alloc _⟩
  by_cases h2 : 253402300799 < s
  · clear h
    go_enter Try.func19, Try.ntmps19
    go_wp2
    go_ret
    exact ⟨rfl, (Q.refl _).alloc _⟩
  by_cases h3 : p < 1
  · clear h
    go_enter Try.func19, Try.ntmps19
    go_wp2
    go_ret
    exact ⟨rfl, (Q.refl _).alloc _⟩
  by_cases h4 : 68719476736 < p
  · clear h
    go_enter Try.func19, Try.ntmps19
    go_wp2
    go_ret
    exact ⟨rfl, (Q.refl _).alloc _⟩
  by_cases h5 : c < 0
  · clear h
    go_enter Try.func19, Try.ntmps19
    go_wp2
    go_ret
    exact ⟨rfl, (Q.refl _).alloc _⟩
  · have h6 : 1000000 < c := by omega
    clear h
    go_enter Try.func19, Try.ntmps19
    go_wp2
    go_ret
    exact ⟨rfl, (Q.refl _).alloc _⟩
theorem at_in (s p c n k : Int) (h0 : 0 ≤ k) (h1 : k < n) (hb : 0 ≤ k * p ∧ k * p ≤ 253402300799) (hs : 0 ≤ s ∧ s ≤ 253402300799) (w : World) :
    Calls Try.prog 41 #[.agg #[.int .i64 s, .int .i64 p, .int .i64 c, .int .i64 n], .int .i64 k] w fun e w' => e = .returned (.tuple #[.int .i64 (s + k * p), .bool true]) ∧ Q w w' := by
  obtain ⟨m, hm⟩ : ∃ m, k * p = m := ⟨_, rfl⟩
  rw [hm] at hb ⊢
  go_enter Try.func41, Try.ntmps41
  go_wp2
  go_ret2
  exact ⟨rfl, (Q.refl _).alloc _⟩
theorem at_out (s p c n k : Int) (h : k < 0 ∨ n ≤ k) (w : World) :
    Calls Try.prog 41 #[.agg #[.int .i64 s, .int .i64 p, .int .i64 c, .int .i64 n], .int .i64 k] w fun e w' => e = .returned (.tuple #[.int .i64 0, .bool false]) ∧ Q w w' := by
  by_cases h1 : k < 0
  · clear h
    go_enter Try.func41, Try.ntmps41
    go_wp2
    go_ret2
    exact ⟨rfl, (Q.refl _).alloc _⟩
  · have h2 : n ≤ k := by omega
    clear h
    go_enter Try.func41, Try.ntmps41
    go_wp2
    go_ret2
    exact ⟨rfl, (Q.refl _).alloc _⟩
theorem before_any (s p c t : Int) (h : Ev.Ok s p c) (ht : -9223372036854775808 ≤ t ∧ t ≤ 9223372036854775807) (w : World) :
    Calls Try.prog 35 #[.agg #[.int .i64 s, .int .i64 p, .int .i64 c, .int .i64 (Ev.num s p c)], .int .i64 t] w fun e w' => e = .returned (.int .i64 (Ev.bef s p c t)) ∧ Q w w' := by
  obtain ⟨h1, h2, h3, h4, h5, h6⟩ := h
  unfold Ev.bef
  obtain ⟨n, hn⟩ : ∃ n, Ev.num s p c = n := ⟨_, rfl⟩
  rw [hn]
  clear hn
  by_cases hs : t ≤ s
  · rw [if_pos hs]
    go_enter Try.func35, Try.ntmps35
    go_wp2
    go_ret
    exact ⟨rfl, (Q.refl _).alloc _⟩
  · rw [if_neg hs]
    have hd : 0 ≤ (t - s - 1) / p := Int.ediv_nonneg (by omega) (by omega)
    have hd2 : (t - s - 1) / p ≤ t - s - 1 := Int.ediv_le_self _ (by omega)
    by_cases hc : n < (t - s - 1) / p + 1
    · rw [if_pos hc]
      go_enter Try.func35, Try.ntmps35
      go_wp2
      go_quiet (fail)
      go_wp2
      go_ret
      exact ⟨rfl, ((Q.refl _).alloc _).drewN _⟩
    · rw [if_neg hc]
      go_enter Try.func35, Try.ntmps35
      go_wp2
      go_quiet (fail)
      go_wp2
      all_goals
        go_ret
        exact ⟨ret_int (by omega), ((Q.refl _).alloc _).drewN _⟩
theorem neq_bd {p k n : Int} (hp : 1 ≤ p) (h0 : 0 ≤ k) (h1 : k < n) (hn : (n - 1) * p ≤ 253402300799) : 0 ≤ k * p ∧ k * p ≤ 253402300799 := by
  have := Ev.tm_nonneg hp h0
  have := Ev.tm_mono hp (show k ≤ n - 1 by omega)
  omega
theorem tm_bd {s p c k : Int} (h : Ev.Ok s p c) (h0 : 0 ≤ k) (h1 : k < Ev.num s p c) : 0 ≤ k * p ∧ k * p ≤ 253402300799 := by
  have a := Ev.tm_nonneg h.2.2.1 h0
  have b := Ev.tm_le h h1
  have := h.1
  omega
/-- the world: a block of four cells, later -/
theorem box4 {w w2 : World} {a b c d : Value} {T : TypeId} (hq : Q (w.alloc (.cells #[a, b, c, d] T)) w2) :
    w2.cell? ⟨w.heap.size, 0, none⟩ = some a ∧ w2.cell? ⟨w.heap.size, 1, none⟩ = some b ∧ w2.cell? ⟨w.heap.size, 2, none⟩ = some c ∧ w2.cell? ⟨w.heap.size, 3, none⟩ = some d ∧ w.heap.size < w2.heap.size := by
  have hc : ∀ j, w2.cell? ⟨w.heap.size, j, none⟩ = (w.alloc (.cells #[a, b, c, d] T)).cell? ⟨w.heap.size, j, none⟩ := fun j => hq.cell (p := ⟨w.heap.size, j, none⟩) (by simp)
  have hs := hq.size
  simp at hs
  refine ⟨(hc 0).trans (by simp), (hc 1).trans (by simp), (hc 2).trans (by simp), (hc 3).trans (by simp), by omega⟩
theorem box3 {w w2 : World} {a b c : Value} {T : TypeId} (hq : Q (w.alloc (.cells #[a, b, c] T)) w2) :
    w2.cell? ⟨w.heap.size, 0, none⟩ = some a ∧ w2.cell? ⟨w.heap.size, 1, none⟩ = some b ∧ w2.cell? ⟨w.heap.size, 2, none⟩ = some c ∧ w.heap.size < w2.heap.size := by
  have hc : ∀ j, w2.cell? ⟨w.heap.size, j, none⟩ = (w.alloc (.cells #[a, b, c] T)).cell? ⟨w.heap.size, j, none⟩ := fun j => hq.cell (p := ⟨w.heap.size, j, none⟩) (by simp)
  have hs := hq.size
  simp at hs
  refine ⟨(hc 0).trans (by simp), (hc 1).trans (by simp), (hc 2).trans (by simp), by omega⟩
set_option maxHeartbeats 800000 in
theorem has_any (s p c t : Int) (h : Ev.Ok s p c) (ht : -9223372036854775808 ≤ t ∧ t ≤ 9223372036854775807) (w : World) :
    Calls Try.prog 43 #[.agg #[.int .i64 s, .int .i64 p, .int .i64 c, .int .i64 (Ev.num s p c)], .int .i64 t] w fun e w' => e = .returned (.bool (Ev.isB s p c t)) ∧ Q w w' := by
  have k1 := fun w2 => before_any s p c t h ht w2
  have hb := Ev.bef_le h t
  have hi := Ev.has_iff h t
  by_cases hlt : Ev.bef s p c t < Ev.num s p c
  · have k2 := fun w2 => at_in s p c (Ev.num s p c) (Ev.bef s p c t) hb.1 hlt (tm_bd h hb.1 hlt) ⟨h.1, h.2.1⟩ w2
    obtain ⟨B, hB⟩ : ∃ B, Ev.bef s p c t = B := ⟨_, rfl⟩
    obtain ⟨n, hn⟩ : ∃ n, Ev.num s p c = n := ⟨_, rfl⟩
    obtain ⟨U, hU⟩ : ∃ U, s + B * p = U := ⟨_, rfl⟩
    rw [hB, hn] at k2 hi hlt
    rw [hB, hn] at k1
    rw [hU] at k2 hi
    rw [hn]
    have e : Ev.isB s p c t = (U == t) := by
      rw [Bool.eq_iff_iff, hi, beq_iff_eq]; exact ⟨fun k => k.2, fun k => ⟨hlt, k⟩⟩
    rw [e]
    clear hi e hU hB hn hb h
    go_enter Try.func43, Try.ntmps43
    go_wp2_with fail
    go_region_with (first
      | (go_at_call 35; refine (k1 _).mono ?_; rintro e w1 ⟨rfl, hq1⟩; obtain ⟨x0, x1, x2, x3, xz⟩ := box4 ((Q.refl _).drew.trans hq1))
      | (go_at_call 41; refine (k2 _).mono ?_; rintro e w2 ⟨rfl, hq2⟩))
    all_goals
      go_wp2_with fail
      go_ret
      exact ⟨rfl, by repeat (first | exact Q.refl _ | assumption | refine Q.alloc ?_ _ | refine Q.drew ?_ | refine Q.trans ?_ (by assumption))⟩
  · have k2 := fun w2 => at_out s p c (Ev.num s p c) (Ev.bef s p c t) (Or.inr (by omega)) w2
    have e : Ev.isB s p c t = false := by
      rw [Bool.eq_false_iff]; intro k; exact hlt (hi.1 k).1
    rw [e]
    obtain ⟨B, hB⟩ : ∃ B, Ev.bef s p c t = B := ⟨_, rfl⟩
    obtain ⟨n, hn⟩ : ∃ n, Ev.num s p c = n := ⟨_, rfl⟩
    rw [hB, hn] at k2
    rw [hB, hn] at k1
    rw [hn]
    clear hi e hB hn hb h hlt
    go_enter Try.func43, Try.ntmps43
    go_wp2_with fail
    go_region_with (first
      | (go_at_call 35; refine (k1 _).mono ?_; rintro e w1 ⟨rfl, hq1⟩; obtain ⟨x0, x1, x2, x3, xz⟩ := box4 ((Q.refl _).drew.trans hq1))
      | (go_at_call 41; refine (k2 _).mono ?_; rintro e w2 ⟨rfl, hq2⟩))
    all_goals
      go_wp2_with fail
      go_ret
      exact ⟨rfl, by repeat (first | exact Q.refl _ | assumption | refine Q.alloc ?_ _ | refine Q.drew ?_ | refine Q.trans ?_ (by assumption))⟩
end Go.Proofs.Ytfhplhfgcanfbaa
