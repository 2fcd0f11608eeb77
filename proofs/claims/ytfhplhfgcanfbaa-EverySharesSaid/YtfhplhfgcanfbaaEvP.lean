/- The walk of the law EveryShares. -/
import Derived.Test.YtfhplhfgcanfbaaEvO
namespace Go.Proofs.Ytfhplhfgcanfbaa
open Go.RowKit
set_option linter.unusedVariables false
set_option linter.unusedSimpArgs false
set_option maxHeartbeats 2000000 in
theorem everyShares_walk (s1 p1 c1 s2 p2 c2 : Int) (ws1 : (Lit.int .i64 s1).wf = true) (wp1 : (Lit.int .i64 p1).wf = true) (wc1 : (Lit.int .i64 c1).wf = true) (ws2 : (Lit.int .i64 s2).wf = true) (wp2 : (Lit.int .i64 p2).wf = true) (wc2 : (Lit.int .i64 c2).wf = true) (w : World) :
    Calls Try.prog 7 #[.agg #[.int .i64 s1, .int .i64 p1, .int .i64 c1], .agg #[.int .i64 s2, .int .i64 p2, .int .i64 c2]] w fun e w' => e = .returned (.bool true) ∧ Q w w' := by
  clear ws1 wp1 wc1 ws2 wp2 wc2
  by_cases h : Ev.Ok s1 p1 c1 ∧ Ev.Ok s2 p2 c2
  · have k3 := fun w2 => meet_self_any s1 p1 c1 h.1 w2
    have k4 := fun w2 => check_ok s1 p1 c1 h.1 w2
    have k5 := fun w2 => check_ok s2 p2 c2 h.2 w2
    rcases meet_split s1 p1 c1 s2 p2 c2 h.1 h.2 with ⟨t, ha, hb, k1, k2, _⟩ | ⟨k1, k2, _⟩
    · have k6 := fun w2 => is_ok s1 p1 c1 t h.1 (is_time_ok h.1 ha) w2
      have k7 := fun w2 => is_ok s2 p2 c2 t h.2 (is_time_ok h.1 ha) w2
      rw [ha] at k6
      rw [hb] at k7
      clear h ha hb
      go_enter Try.func7, Try.ntmps7
      go_wp2_with (first
        | (go_at_call 17; with_reducible refine (k1 _).mono ?_; rintro e w1 ⟨rfl, hq1⟩; obtain ⟨x11, x21, x31⟩ := qcell hq1; have hz1 : w.heap.size < w1.heap.size := (by have := hq1.size; (try simp at this); omega); have hy1 : w.heap.size + 1 < w1.heap.size := (by have := hq1.size; (try simp at this); omega))
        | (go_at_call 17; with_reducible refine (k2 _).mono ?_; rintro e w2 ⟨rfl, hq2⟩; obtain ⟨x12, x22, x32⟩ := qcell hq2; have hz2 : w.heap.size < w2.heap.size := (by have := hq2.size; (try simp at this); omega); have hy2 : w.heap.size + 1 < w2.heap.size := (by have := hq2.size; (try simp at this); omega))
        | (go_at_call 17; with_reducible refine (k3 _).mono ?_; rintro e w3 ⟨rfl, hq3⟩; obtain ⟨x13, x23, x33⟩ := qcell hq3; have hz3 : w.heap.size < w3.heap.size := (by have := hq3.size; (try simp at this); omega); have hy3 : w.heap.size + 1 < w3.heap.size := (by have := hq3.size; (try simp at this); omega))
        | (go_at_call 19; with_reducible refine (k4 _).mono ?_; rintro e w4 ⟨rfl, hq4⟩; obtain ⟨x14, x24, x34⟩ := qcell hq4; have hz4 : w.heap.size < w4.heap.size := (by have := hq4.size; (try simp at this); omega); have hy4 : w.heap.size + 1 < w4.heap.size := (by have := hq4.size; (try simp at this); omega))
        | (go_at_call 19; with_reducible refine (k5 _).mono ?_; rintro e w5 ⟨rfl, hq5⟩; obtain ⟨x15, x25, x35⟩ := qcell hq5; have hz5 : w.heap.size < w5.heap.size := (by have := hq5.size; (try simp at this); omega); have hy5 : w.heap.size + 1 < w5.heap.size := (by have := hq5.size; (try simp at this); omega))
        | (go_at_call 21; with_reducible refine (k6 _).mono ?_; rintro e w6 ⟨rfl, hq6⟩; obtain ⟨x16, x26, x36⟩ := qcell hq6; have hz6 : w.heap.size < w6.heap.size := (by have := hq6.size; (try simp at this); omega); have hy6 : w.heap.size + 1 < w6.heap.size := (by have := hq6.size; (try simp at this); omega))
        | (go_at_call 21; with_reducible refine (k7 _).mono ?_; rintro e w7 ⟨rfl, hq7⟩; obtain ⟨x17, x27, x37⟩ := qcell hq7; have hz7 : w.heap.size < w7.heap.size := (by have := hq7.size; (try simp at this); omega); have hy7 : w.heap.size + 1 < w7.heap.size := (by have := hq7.size; (try simp at this); omega))
        | (go_at_call 16; refine (works_any _).mono ?_; rintro e w99 ⟨rfl, hq99⟩))
      go_ret
      exact ⟨rfl, by repeat (first | exact Q.refl _ | assumption | refine Q.alloc ?_ _ | refine Q.drew ?_ | refine Q.drewN ?_ _ | refine Q.trans ?_ (by assumption))⟩
    · clear h
      go_enter Try.func7, Try.ntmps7
      go_wp2_with (first
        | (go_at_call 17; with_reducible refine (k1 _).mono ?_; rintro e w1 ⟨rfl, hq1⟩; obtain ⟨x11, x21, x31⟩ := qcell hq1; have hz1 : w.heap.size < w1.heap.size := (by have := hq1.size; (try simp at this); omega); have hy1 : w.heap.size + 1 < w1.heap.size := (by have := hq1.size; (try simp at this); omega))
        | (go_at_call 17; with_reducible refine (k2 _).mono ?_; rintro e w2 ⟨rfl, hq2⟩; obtain ⟨x12, x22, x32⟩ := qcell hq2; have hz2 : w.heap.size < w2.heap.size := (by have := hq2.size; (try simp at this); omega); have hy2 : w.heap.size + 1 < w2.heap.size := (by have := hq2.size; (try simp at this); omega))
        | (go_at_call 17; with_reducible refine (k3 _).mono ?_; rintro e w3 ⟨rfl, hq3⟩; obtain ⟨x13, x23, x33⟩ := qcell hq3; have hz3 : w.heap.size < w3.heap.size := (by have := hq3.size; (try simp at this); omega); have hy3 : w.heap.size + 1 < w3.heap.size := (by have := hq3.size; (try simp at this); omega))
        | (go_at_call 19; with_reducible refine (k4 _).mono ?_; rintro e w4 ⟨rfl, hq4⟩; obtain ⟨x14, x24, x34⟩ := qcell hq4; have hz4 : w.heap.size < w4.heap.size := (by have := hq4.size; (try simp at this); omega); have hy4 : w.heap.size + 1 < w4.heap.size := (by have := hq4.size; (try simp at this); omega))
        | (go_at_call 19; with_reducible refine (k5 _).mono ?_; rintro e w5 ⟨rfl, hq5⟩; obtain ⟨x15, x25, x35⟩ := qcell hq5; have hz5 : w.heap.size < w5.heap.size := (by have := hq5.size; (try simp at this); omega); have hy5 : w.heap.size + 1 < w5.heap.size := (by have := hq5.size; (try simp at this); omega))
        | (go_at_call 16; refine (works_any _).mono ?_; rintro e w99 ⟨rfl, hq99⟩))
      go_ret
      exact ⟨rfl, by repeat (first | exact Q.refl _ | assumption | refine Q.alloc ?_ _ | refine Q.drew ?_ | refine Q.drewN ?_ _ | refine Q.trans ?_ (by assumption))⟩
  · have k1 := fun w2 => meet_err s1 p1 c1 s2 p2 c2 h w2
    have k2 := fun w2 => meet_err s2 p2 c2 s1 p1 c1 (fun k => h ⟨k.2, k.1⟩) w2
    by_cases h1 : Ev.Ok s1 p1 c1
    · have h2 : ¬ Ev.Ok s2 p2 c2 := fun k => h ⟨h1, k⟩
      have k4 := fun w2 => check_ok s1 p1 c1 h1 w2
      have k5 := fun w2 => check_bad s2 p2 c2 h2 w2
      clear h h1 h2
      go_enter Try.func7, Try.ntmps7
      go_wp2_with (first
        | (go_at_call 17; with_reducible refine (k1 _).mono ?_; rintro e w1 ⟨rfl, hq1⟩; obtain ⟨x11, x21, x31⟩ := qcell hq1; have hz1 : w.heap.size < w1.heap.size := (by have := hq1.size; (try simp at this); omega); have hy1 : w.heap.size + 1 < w1.heap.size := (by have := hq1.size; (try simp at this); omega))
        | (go_at_call 17; with_reducible refine (k2 _).mono ?_; rintro e w2 ⟨rfl, hq2⟩; obtain ⟨x12, x22, x32⟩ := qcell hq2; have hz2 : w.heap.size < w2.heap.size := (by have := hq2.size; (try simp at this); omega); have hy2 : w.heap.size + 1 < w2.heap.size := (by have := hq2.size; (try simp at this); omega))
        | (go_at_call 19; with_reducible refine (k4 _).mono ?_; rintro e w4 ⟨rfl, hq4⟩; obtain ⟨x14, x24, x34⟩ := qcell hq4; have hz4 : w.heap.size < w4.heap.size := (by have := hq4.size; (try simp at this); omega); have hy4 : w.heap.size + 1 < w4.heap.size := (by have := hq4.size; (try simp at this); omega))
        | (go_at_call 19; with_reducible refine (k5 _).mono ?_; rintro e w5 ⟨rfl, hq5⟩; obtain ⟨x15, x25, x35⟩ := qcell hq5; have hz5 : w.heap.size < w5.heap.size := (by have := hq5.size; (try simp at this); omega); have hy5 : w.heap.size + 1 < w5.heap.size := (by have := hq5.size; (try simp at this); omega))
        | (go_at_call 16; refine (works_any _).mono ?_; rintro e w99 ⟨rfl, hq99⟩))
      go_ret
      exact ⟨rfl, by repeat (first | exact Q.refl _ | assumption | refine Q.alloc ?_ _ | refine Q.drew ?_ | refine Q.drewN ?_ _ | refine Q.trans ?_ (by assumption))⟩
    · have k4 := fun w2 => check_bad s1 p1 c1 h1 w2
      clear h h1
      go_enter Try.func7, Try.ntmps7
      go_wp2_with (first
        | (go_at_call 17; with_reducible refine (k1 _).mono ?_; rintro e w1 ⟨rfl, hq1⟩; obtain ⟨x11, x21, x31⟩ := qcell hq1; have hz1 : w.heap.size < w1.heap.size := (by have := hq1.size; (try simp at this); omega); have hy1 : w.heap.size + 1 < w1.heap.size := (by have := hq1.size; (try simp at this); omega))
        | (go_at_call 17; with_reducible refine (k2 _).mono ?_; rintro e w2 ⟨rfl, hq2⟩; obtain ⟨x12, x22, x32⟩ := qcell hq2; have hz2 : w.heap.size < w2.heap.size := (by have := hq2.size; (try simp at this); omega); have hy2 : w.heap.size + 1 < w2.heap.size := (by have := hq2.size; (try simp at this); omega))
        | (go_at_call 19; with_reducible refine (k4 _).mono ?_; rintro e w4 ⟨rfl, hq4⟩; obtain ⟨x14, x24, x34⟩ := qcell hq4; have hz4 : w.heap.size < w4.heap.size := (by have := hq4.size; (try simp at this); omega); have hy4 : w.heap.size + 1 < w4.heap.size := (by have := hq4.size; (try simp at this); omega))
        | (go_at_call 16; refine (works_any _).mono ?_; rintro e w99 ⟨rfl, hq99⟩))
      go_ret
      exact ⟨rfl, by repeat (first | exact Q.refl _ | assumption | refine Q.alloc ?_ _ | refine Q.drew ?_ | refine Q.drewN ?_ _ | refine Q.trans ?_ (by assumption))⟩
end Go.Proofs.Ytfhplhfgcanfbaa
