/- The walks of the laws EveryMeets and EveryShares. -/
import Derived.Test.YtfhplhfgcanfbaaEvW
import Derived.Test.YtfhplhfgcanfbaaEvM
namespace Go.Proofs.Ytfhplhfgcanfbaa
open Go.RowKit
set_option linter.unusedVariables false
set_option linter.unusedSimpArgs false
theorem meet_any (s1 p1 c1 s2 p2 c2 : Int) (h1 : Ev.Ok s1 p1 c1) (h2 : Ev.Ok s2 p2 c2) (w : World) :
    Calls Try.prog 17 #[.agg #[.int .i64 s1, .int .i64 p1, .int .i64 c1], .agg #[.int .i64 s2, .int .i64 p2, .int .i64 c2]] w (MeetPost s1 p1 c1 s2 p2 c2 w) := by
  by_cases h : s1 < s2
  · exact meet_early s1 p1 c1 s2 p2 c2 h1 h2 h w
  · exact meet_late s1 p1 c1 s2 p2 c2 h1 h2 (by omega) w
theorem meet_err (s1 p1 c1 s2 p2 c2 : Int) (h : ¬ (Ev.Ok s1 p1 c1 ∧ Ev.Ok s2 p2 c2)) (w : World) :
    Calls Try.prog 17 #[.agg #[.int .i64 s1, .int .i64 p1, .int .i64 c1], .agg #[.int .i64 s2, .int .i64 p2, .int .i64 c2]] w fun e w' => e = .returned (.tuple #[.int .i64 0, .bool false, .int .i64 16]) ∧ Q w w' := by
  by_cases h1 : Ev.Ok s1 p1 c1
  · exact meet_bad2 s1 p1 c1 s2 p2 c2 h1 (fun k => h ⟨h1, k⟩) w
  · exact meet_bad1 s1 p1 c1 s2 p2 c2 h1 w
theorem rmeet_err (s1 p1 c1 s2 p2 c2 : Int) (h : ¬ (Ev.Ok s1 p1 c1 ∧ Ev.Ok s2 p2 c2)) (w : World) :
    Calls Try.prog 18 #[.agg #[.int .i64 s1, .int .i64 p1, .int .i64 c1], .agg #[.int .i64 s2, .int .i64 p2, .int .i64 c2]] w fun e w' => e = .returned (.tuple #[.int .i64 0, .bool false, .int .i64 16]) ∧ Q w w' := by
  by_cases h1 : Ev.Ok s1 p1 c1
  · exact rmeet_bad2 s1 p1 c1 s2 p2 c2 h1 (fun k => h ⟨h1, k⟩) w
  · exact rmeet_bad1 s1 p1 c1 s2 p2 c2 h1 w
set_option maxHeartbeats 1000000 in
theorem everyMeets_walk (s1 p1 c1 s2 p2 c2 : Int) (ws1 : (Lit.int .i64 s1).wf = true) (wp1 : (Lit.int .i64 p1).wf = true) (wc1 : (Lit.int .i64 c1).wf = true) (ws2 : (Lit.int .i64 s2).wf = true) (wp2 : (Lit.int .i64 p2).wf = true) (wc2 : (Lit.int .i64 c2).wf = true) (w : World) :
    Calls Try.prog 4 #[.agg #[.int .i64 s1, .int .i64 p1, .int .i64 c1], .agg #[.int .i64 s2, .int .i64 p2, .int .i64 c2]] w fun e w' => e = .returned (.bool true) ∧ Q w w' := by
  clear ws1 wp1 wc1 ws2 wp2 wc2
  by_cases h : Ev.Ok s1 p1 c1 ∧ Ev.Ok s2 p2 c2
  · have k1 := fun w2 => meet_any s1 p1 c1 s2 p2 c2 h.1 h.2 w2
    have k2 := fun w2 => rmeet_any s1 p1 c1 s2 p2 c2 h.1 h.2 w2
    clear h
    go_enter Try.func4, Try.ntmps4
    go_wp2_with (first
      | (go_at_call 17; refine (k1 _).mono ?_; rintro e w1 ⟨⟨t, ok, rfl, hm⟩, hq1⟩; obtain ⟨x1, x2, x3⟩ := qcell hq1; have hz1 : w.heap.size < w1.heap.size := (by have := hq1.size; simp at this; omega); have hz2 : w.heap.size + 1 < w1.heap.size := (by have := hq1.size; simp at this; omega))
      | (go_at_call 18; refine (k2 _).mono ?_; rintro e w2 ⟨⟨u, ok2, rfl, hm2⟩, hq2⟩; obtain ⟨eu, ek⟩ := hm2.unique hm)
      | (go_at_call 16; refine (works_any _).mono ?_; rintro e w99 ⟨rfl, hq99⟩))
    go_ret
    exact ⟨rfl, by repeat (first | exact Q.refl _ | assumption | refine Q.alloc ?_ _ | refine Q.drew ?_ | refine Q.drewN ?_ _ | refine Q.trans ?_ (by assumption))⟩
  · have k1 := fun w2 => meet_err s1 p1 c1 s2 p2 c2 h w2
    have k2 := fun w2 => rmeet_err s1 p1 c1 s2 p2 c2 h w2
    clear h
    go_enter Try.func4, Try.ntmps4
    go_wp2_with (first
      | (go_at_call 17; refine (k1 _).mono ?_; rintro e w1 ⟨rfl, hq1⟩; obtain ⟨x1, x2, x3⟩ := qcell hq1; have hz1 : w.heap.size < w1.heap.size := (by have := hq1.size; simp at this; omega); have hz2 : w.heap.size + 1 < w1.heap.size := (by have := hq1.size; simp at this; omega))
      | (go_at_call 18; refine (k2 _).mono ?_; rintro e w2 ⟨rfl, hq2⟩)
      | (go_at_call 16; refine (works_any _).mono ?_; rintro e w99 ⟨rfl, hq99⟩))
    go_ret
    exact ⟨rfl, by repeat (first | exact Q.refl _ | assumption | refine Q.alloc ?_ _ | refine Q.drew ?_ | refine Q.drewN ?_ _ | refine Q.trans ?_ (by assumption))⟩
theorem meet_self (s p c : Int) (h : Ev.Ok s p c) : Ev.MeetR s p c s p c s true := by
  have hs : Ev.isB s p c s = true := (Ev.is_iff h s).2 ⟨0, by omega, by have := Ev.num_pos h; omega, by omega⟩
  refine Or.inl ⟨rfl, hs, hs, fun u a _ => ?_⟩
  obtain ⟨n, n0, _, rfl⟩ := (Ev.is_iff h u).1 a
  have := Ev.tm_nonneg h.2.2.1 n0
  omega
theorem is_time_ok {s p c t : Int} (h : Ev.Ok s p c) (hi : Ev.isB s p c t = true) : Ev.TOk t := by
  obtain ⟨n, n0, n1, rfl⟩ := (Ev.is_iff h t).1 hi
  have a := Ev.tm_nonneg h.2.2.1 n0
  have b := Ev.tm_le h n1
  exact ⟨by have := h.1; omega, b⟩
theorem meet_self_any (s p c : Int) (h : Ev.Ok s p c) (w : World) :
    Calls Try.prog 17 #[.agg #[.int .i64 s, .int .i64 p, .int .i64 c], .agg #[.int .i64 s, .int .i64 p, .int .i64 c]] w fun e w' => e = .returned (.tuple #[.int .i64 s, .bool true, .int .i64 0]) ∧ Q w w' := by
  refine (meet_any s p c s p c h h w).mono ?_
  rintro e w' ⟨⟨t, ok, rfl, hm⟩, hq⟩
  obtain ⟨rfl, rfl⟩ := hm.unique (meet_self s p c h)
  exact ⟨rfl, hq⟩
/-- a shared time, or none: what Meet answers, in two sorts -/
theorem meet_split (s1 p1 c1 s2 p2 c2 : Int) (h1 : Ev.Ok s1 p1 c1) (h2 : Ev.Ok s2 p2 c2) :
    (∃ t, Ev.isB s1 p1 c1 t = true ∧ Ev.isB s2 p2 c2 t = true ∧ (∀ w, Calls Try.prog 17 #[.agg #[.int .i64 s1, .int .i64 p1, .int .i64 c1], .agg #[.int .i64 s2, .int .i64 p2, .int .i64 c2]] w fun e w' => e = .returned (.tuple #[.int .i64 t, .bool true, .int .i64 0]) ∧ Q w w') ∧ (∀ w, Calls Try.prog 17 #[.agg #[.int .i64 s2, .int .i64 p2, .int .i64 c2], .agg #[.int .i64 s1, .int .i64 p1, .int .i64 c1]] w fun e w' => e = .returned (.tuple #[.int .i64 t, .bool true, .int .i64 0]) ∧ Q w w') ∧ ∀ u, Ev.isB s1 p1 c1 u = true → Ev.isB s2 p2 c2 u = true → t ≤ u) ∨
    ((∀ w, Calls Try.prog 17 #[.agg #[.int .i64 s1, .int .i64 p1, .int .i64 c1], .agg #[.int .i64 s2, .int .i64 p2, .int .i64 c2]] w fun e w' => e = .returned (.tuple #[.int .i64 0, .bool false, .int .i64 0]) ∧ Q w w') ∧ (∀ w, Calls Try.prog 17 #[.agg #[.int .i64 s2, .int .i64 p2, .int .i64 c2], .agg #[.int .i64 s1, .int .i64 p1, .int .i64 c1]] w fun e w' => e = .returned (.tuple #[.int .i64 0, .bool false, .int .i64 0]) ∧ Q w w') ∧ ∀ u, Ev.isB s1 p1 c1 u = true → Ev.isB s2 p2 c2 u = true → False) := by
  by_cases hx : ∃ t, Ev.MeetR s1 p1 c1 s2 p2 c2 t true
  · obtain ⟨t, ht⟩ := hx
    rcases ht with ⟨_, a, b, d⟩ | ⟨k, _⟩
    · have hr : Ev.MeetR s1 p1 c1 s2 p2 c2 t true := Or.inl ⟨rfl, a, b, d⟩
      refine Or.inl ⟨t, a, b, fun w => (meet_any s1 p1 c1 s2 p2 c2 h1 h2 w).mono ?_, fun w => (meet_any s2 p2 c2 s1 p1 c1 h2 h1 w).mono ?_, d⟩
      · rintro e w' ⟨⟨u, ok, rfl, hm⟩, hq⟩
        obtain ⟨rfl, rfl⟩ := hm.unique hr
        exact ⟨rfl, hq⟩
      · rintro e w' ⟨⟨u, ok, rfl, hm⟩, hq⟩
        obtain ⟨rfl, rfl⟩ := hm.symm.unique hr
        exact ⟨rfl, hq⟩
    · cases k
  · have hn : ∀ u, Ev.isB s1 p1 c1 u = true → Ev.isB s2 p2 c2 u = true → False := by
      intro u a b
      -- the shared times are numbers that are not negative: there is a smallest one
      have key : ∀ k : Nat, ∀ v : Int, 0 ≤ v → v ≤ k → Ev.isB s1 p1 c1 v = true → Ev.isB s2 p2 c2 v = true → False := by
        intro k
        induction k with
        | zero =>
          intro v v0 v1 a b
          refine hx ⟨v, Or.inl ⟨rfl, a, b, fun z za _ => ?_⟩⟩
          have := (is_time_ok h1 za).1
          omega
        | succ k ih =>
          intro v v0 v1 a b
          refine hx ⟨v, Or.inl ⟨rfl, a, b, fun z za zb => ?_⟩⟩
          by_cases hz : v ≤ z
          · exact hz
          · exact (ih z (is_time_ok h1 za).1 (by omega) za zb).elim
      exact key u.toNat u (is_time_ok h1 a).1 (by have := (is_time_ok h1 a).1; omega) a b
    have hr : Ev.MeetR s1 p1 c1 s2 p2 c2 0 false := Or.inr ⟨rfl, rfl, hn⟩
    refine Or.inr ⟨fun w => (meet_any s1 p1 c1 s2 p2 c2 h1 h2 w).mono ?_, fun w => (meet_any s2 p2 c2 s1 p1 c1 h2 h1 w).mono ?_, hn⟩
    · rintro e w' ⟨⟨u, ok, rfl, hm⟩, hq⟩
      obtain ⟨rfl, rfl⟩ := hm.unique hr
      exact ⟨rfl, hq⟩
    · rintro e w' ⟨⟨u, ok, rfl, hm⟩, hq⟩
      obtain ⟨rfl, rfl⟩ := hm.symm.unique hr
      exact ⟨rfl, hq⟩
end Go.Proofs.Ytfhplhfgcanfbaa
