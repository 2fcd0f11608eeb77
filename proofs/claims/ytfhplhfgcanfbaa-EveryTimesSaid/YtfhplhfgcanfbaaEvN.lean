/- The program's and the document's functions give the same answers, one by one; the walks of the laws EveryCounts, EveryNumbers, EveryTimes. -/
import Derived.Test.YtfhplhfgcanfbaaEvW
import Derived.Test.YtfhplhfgcanfbaaEvH
import Derived.Deep.RegionHeld3
namespace Go.Proofs.Ytfhplhfgcanfbaa
open Go.RowKit
set_option linter.unusedVariables false
set_option linter.unusedSimpArgs false
theorem check_both (s p c : Int) : ∃ (e : Int), (∀ w, Calls Try.prog 19 #[.agg #[.int .i64 s, .int .i64 p, .int .i64 c]] w fun r w' => r = .returned (.int .i64 e) ∧ Q w w') ∧ (∀ w, Calls Try.prog 33 #[.agg #[.int .i64 s, .int .i64 p, .int .i64 c]] w fun r w' => r = .returned (.int .i64 e) ∧ Q w w') := by
  by_cases h : Ev.Ok s p c
  · exact ⟨0, check_ok s p c h, rcheck_ok s p c h⟩
  · exact ⟨16, check_bad s p c h, rcheck_bad s p c h⟩
theorem is_both (s p c t : Int) : ∃ (v : Bool) (e : Int), (∀ w, Calls Try.prog 21 #[.agg #[.int .i64 s, .int .i64 p, .int .i64 c], .int .i64 t] w fun r w' => r = .returned (.tuple #[.bool v, .int .i64 e]) ∧ Q w w') ∧ (∀ w, Calls Try.prog 29 #[.agg #[.int .i64 s, .int .i64 p, .int .i64 c], .int .i64 t] w fun r w' => r = .returned (.tuple #[.bool v, .int .i64 e]) ∧ Q w w') := by
  by_cases h : Ev.Ok s p c
  · by_cases ht : Ev.TOk t
    · exact ⟨_, _, is_ok s p c t h ht, ris_ok s p c t h ht⟩
    · exact ⟨_, _, is_time s p c t h ht, ris_time s p c t h ht⟩
  · exact ⟨_, _, is_bad s p c t h, ris_bad s p c t h⟩
theorem next_both (s p c t : Int) : ∃ (v : Int) (b : Bool) (e : Int), (∀ w, Calls Try.prog 23 #[.agg #[.int .i64 s, .int .i64 p, .int .i64 c], .int .i64 t] w fun r w' => r = .returned (.tuple #[.int .i64 v, .bool b, .int .i64 e]) ∧ Q w w') ∧ (∀ w, Calls Try.prog 30 #[.agg #[.int .i64 s, .int .i64 p, .int .i64 c], .int .i64 t] w fun r w' => r = .returned (.tuple #[.int .i64 v, .bool b, .int .i64 e]) ∧ Q w w') := by
  by_cases h : Ev.Ok s p c
  · by_cases ht : Ev.TOk t
    · exact ⟨_, _, _, next_ok s p c t h ht, rnext_ok s p c t h ht⟩
    · exact ⟨_, _, _, next_time s p c t h ht, rnext_time s p c t h ht⟩
  · exact ⟨_, _, _, next_bad s p c t h, rnext_bad s p c t h⟩
theorem prev_both (s p c t : Int) : ∃ (v : Int) (b : Bool) (e : Int), (∀ w, Calls Try.prog 31 #[.agg #[.int .i64 s, .int .i64 p, .int .i64 c], .int .i64 t] w fun r w' => r = .returned (.tuple #[.int .i64 v, .bool b, .int .i64 e]) ∧ Q w w') ∧ (∀ w, Calls Try.prog 32 #[.agg #[.int .i64 s, .int .i64 p, .int .i64 c], .int .i64 t] w fun r w' => r = .returned (.tuple #[.int .i64 v, .bool b, .int .i64 e]) ∧ Q w w') := by
  by_cases h : Ev.Ok s p c
  · by_cases ht : Ev.TOk t
    · exact ⟨_, _, _, prev_ok s p c t h ht, rprev_ok s p c t h ht⟩
    · exact ⟨_, _, _, prev_time s p c t h ht, rprev_time s p c t h ht⟩
  · exact ⟨_, _, _, prev_bad s p c t h, rprev_bad s p c t h⟩
theorem count_both (s p c a b : Int) : ∃ (v : Int) (e : Int), (∀ w, Calls Try.prog 14 #[.agg #[.int .i64 s, .int .i64 p, .int .i64 c], .int .i64 a, .int .i64 b] w fun r w' => r = .returned (.tuple #[.int .i64 v, .int .i64 e]) ∧ Q w w') ∧ (∀ w, Calls Try.prog 15 #[.agg #[.int .i64 s, .int .i64 p, .int .i64 c], .int .i64 a, .int .i64 b] w fun r w' => r = .returned (.tuple #[.int .i64 v, .int .i64 e]) ∧ Q w w') := by
  by_cases h : Ev.Ok s p c
  · by_cases ha : Ev.TOk a
    · by_cases hb : Ev.TOk b
      · refine ⟨Ev.cntV s p c a b, 0, count_ok s p c a b h ha hb, ?_⟩
        unfold Ev.cntV
        by_cases hab : a ≤ b
        · rw [if_pos hab]; exact rcount_in s p c a b h ha hb hab
        · rw [if_neg hab]; exact rcount_less s p c a b h ha hb (by omega)
      · exact ⟨_, _, count_time2 s p c a b h ha hb, rcount_time2 s p c a b h ha hb⟩
    · exact ⟨_, _, count_time1 s p c a b h ha, rcount_time1 s p c a b h ha⟩
  · exact ⟨_, _, count_bad s p c a b h, rcount_bad s p c a b h⟩
theorem nth_both (s p c n : Int) : ∃ (v : Int) (e : Int), (∀ w, Calls Try.prog 25 #[.agg #[.int .i64 s, .int .i64 p, .int .i64 c], .int .i64 n] w fun r w' => r = .returned (.tuple #[.int .i64 v, .int .i64 e]) ∧ Q w w') ∧ (∀ w, Calls Try.prog 26 #[.agg #[.int .i64 s, .int .i64 p, .int .i64 c], .int .i64 n] w fun r w' => r = .returned (.tuple #[.int .i64 v, .int .i64 e]) ∧ Q w w') := by
  by_cases h : Ev.Ok s p c
  · by_cases h0 : 0 ≤ n ∧ n < Ev.num s p c
    · exact ⟨_, _, nth_in s p c n h h0.1 h0.2, rnth_in s p c n h h0.1 h0.2⟩
    · exact ⟨_, _, nth_out s p c n h (by omega), rnth_out s p c n h (by omega)⟩
  · exact ⟨_, _, nth_bad s p c n h, rnth_bad s p c n h⟩
theorem index_both (s p c t : Int) : ∃ (v : Int) (e : Int), (∀ w, Calls Try.prog 24 #[.agg #[.int .i64 s, .int .i64 p, .int .i64 c], .int .i64 t] w fun r w' => r = .returned (.tuple #[.int .i64 v, .int .i64 e]) ∧ Q w w') ∧ (∀ w, Calls Try.prog 27 #[.agg #[.int .i64 s, .int .i64 p, .int .i64 c], .int .i64 t] w fun r w' => r = .returned (.tuple #[.int .i64 v, .int .i64 e]) ∧ Q w w') := by
  by_cases h : Ev.Ok s p c
  · by_cases ht : Ev.TOk t
    · cases hi : Ev.isB s p c t with
      | true => exact ⟨_, _, index_in s p c t h ht hi, rindex_in s p c t h ht hi⟩
      | false => exact ⟨_, _, index_out s p c t h ht hi, rindex_out s p c t h ht hi⟩
    · exact ⟨_, _, index_time s p c t h ht, rindex_time s p c t h ht⟩
  · exact ⟨_, _, index_bad s p c t h, rindex_bad s p c t h⟩
theorem last_both (s p c : Int) : ∃ (v : Int) (b : Bool) (e : Int), (∀ w, Calls Try.prog 22 #[.agg #[.int .i64 s, .int .i64 p, .int .i64 c]] w fun r w' => r = .returned (.tuple #[.int .i64 v, .bool b, .int .i64 e]) ∧ Q w w') ∧ (∀ w, Calls Try.prog 28 #[.agg #[.int .i64 s, .int .i64 p, .int .i64 c]] w fun r w' => r = .returned (.tuple #[.int .i64 v, .bool b, .int .i64 e]) ∧ Q w w') := by
  by_cases h : Ev.Ok s p c
  · exact ⟨_, _, _, last_ok s p c h, rlast_ok s p c h⟩
  · exact ⟨_, _, _, last_bad s p c h, rlast_bad s p c h⟩
set_option maxHeartbeats 1000000 in
theorem everyCounts_walk (s p c a b : Int) (ws : (Lit.int .i64 s).wf = true) (wp : (Lit.int .i64 p).wf = true) (wc : (Lit.int .i64 c).wf = true) (wa : (Lit.int .i64 a).wf = true) (wb : (Lit.int .i64 b).wf = true) (w : World) :
    Calls Try.prog 3 #[.agg #[.int .i64 s, .int .i64 p, .int .i64 c], .int .i64 a, .int .i64 b] w fun e w' => e = .returned (.bool true) ∧ Q w w' := by
  clear ws wp wc
  clear wa wb
  obtain ⟨v, f, k1, k2⟩ := count_both s p c a b
  go_enter Try.func3, Try.ntmps3
  go_wp2_with (first
    | (go_at_call 14; refine (k1 _).mono ?_; rintro e w1 ⟨rfl, hq1⟩; obtain ⟨x11, x21, x31⟩ := qcell hq1; have hz1 : w.heap.size < w1.heap.size := (by have := hq1.size; (try simp at this); omega))
    | (go_at_call 15; refine (k2 _).mono ?_; rintro e w2 ⟨rfl, hq2⟩; obtain ⟨x12, x22, x32⟩ := qcell hq2; have hz2 : w.heap.size < w2.heap.size := (by have := hq2.size; (try simp at this); omega))
    | (go_at_call 16; refine (works_any _).mono ?_; rintro e w99 ⟨rfl, hq99⟩))
  go_ret
  exact ⟨rfl, by repeat (first | exact Q.refl _ | assumption | refine Q.alloc ?_ _ | refine Q.drew ?_ | refine Q.drewN ?_ _ | refine Q.trans ?_ (by assumption))⟩
set_option maxHeartbeats 1000000 in
theorem everyNumbers_walk (s p c n t : Int) (ws : (Lit.int .i64 s).wf = true) (wp : (Lit.int .i64 p).wf = true) (wc : (Lit.int .i64 c).wf = true) (wn : (Lit.int .i64 n).wf = true) (wt : (Lit.int .i64 t).wf = true) (w : World) :
    Calls Try.prog 10 #[.agg #[.int .i64 s, .int .i64 p, .int .i64 c], .int .i64 n, .int .i64 t] w fun e w' => e = .returned (.bool true) ∧ Q w w' := by
  clear ws wp wc
  clear wn wt
  obtain ⟨v1, f1, k1, k2⟩ := nth_both s p c n
  obtain ⟨v2, f2, k3, k4⟩ := index_both s p c t
  obtain ⟨v3, b3, f3, k5, k6⟩ := last_both s p c
  go_enter Try.func10, Try.ntmps10
  go_wp2_with (first
    | (go_at_call 25; refine (k1 _).mono ?_; rintro e w1 ⟨rfl, hq1⟩; obtain ⟨x11, x21, x31⟩ := qcell hq1; have hz1 : w.heap.size < w1.heap.size := (by have := hq1.size; (try simp at this); omega))
    | (go_at_call 26; refine (k2 _).mono ?_; rintro e w2 ⟨rfl, hq2⟩; obtain ⟨x12, x22, x32⟩ := qcell hq2; have hz2 : w.heap.size < w2.heap.size := (by have := hq2.size; (try simp at this); omega))
    | (go_at_call 24; refine (k3 _).mono ?_; rintro e w3 ⟨rfl, hq3⟩; obtain ⟨x13, x23, x33⟩ := qcell hq3; have hz3 : w.heap.size < w3.heap.size := (by have := hq3.size; (try simp at this); omega))
    | (go_at_call 27; refine (k4 _).mono ?_; rintro e w4 ⟨rfl, hq4⟩; obtain ⟨x14, x24, x34⟩ := qcell hq4; have hz4 : w.heap.size < w4.heap.size := (by have := hq4.size; (try simp at this); omega))
    | (go_at_call 22; refine (k5 _).mono ?_; rintro e w5 ⟨rfl, hq5⟩; obtain ⟨x15, x25, x35⟩ := qcell hq5; have hz5 : w.heap.size < w5.heap.size := (by have := hq5.size; (try simp at this); omega))
    | (go_at_call 28; refine (k6 _).mono ?_; rintro e w6 ⟨rfl, hq6⟩; obtain ⟨x16, x26, x36⟩ := qcell hq6; have hz6 : w.heap.size < w6.heap.size := (by have := hq6.size; (try simp at this); omega))
    | (go_at_call 16; refine (works_any _).mono ?_; rintro e w99 ⟨rfl, hq99⟩))
  go_ret
  exact ⟨rfl, by repeat (first | exact Q.refl _ | assumption | refine Q.alloc ?_ _ | refine Q.drew ?_ | refine Q.drewN ?_ _ | refine Q.trans ?_ (by assumption))⟩
set_option maxHeartbeats 2000000 in
theorem everyTimes_walk (s p c t : Int) (ws : (Lit.int .i64 s).wf = true) (wp : (Lit.int .i64 p).wf = true) (wc : (Lit.int .i64 c).wf = true) (wt : (Lit.int .i64 t).wf = true) (w : World) :
    Calls Try.prog 12 #[.agg #[.int .i64 s, .int .i64 p, .int .i64 c], .int .i64 t] w fun e w' => e = .returned (.bool true) ∧ Q w w' := by
  clear ws wp wc wt
  obtain ⟨v1, f1, k1, k2⟩ := is_both s p c t
  obtain ⟨v2, b2, f2, k3, k4⟩ := next_both s p c t
  obtain ⟨v3, b3, f3, k5, k6⟩ := prev_both s p c t
  obtain ⟨f4, k7, k8⟩ := check_both s p c
  go_enter Try.func12, Try.ntmps12
  go_wp2_with (first
    | (go_at_call 21; refine (k1 _).mono ?_; rintro e w1 ⟨rfl, hq1⟩; obtain ⟨y10, y11, y12, y13⟩ := box3 hq1)
    | (go_at_call 29; refine (k2 _).mono ?_; rintro e w2 ⟨rfl, hq2⟩; obtain ⟨y20, y21, y22, y23⟩ := box3 (hq1.trans hq2))
    | (go_at_call 23; refine (k3 _).mono ?_; rintro e w3 ⟨rfl, hq3⟩; obtain ⟨y30, y31, y32, y33⟩ := box3 ((hq1.trans hq2).trans hq3))
    | (go_at_call 30; refine (k4 _).mono ?_; rintro e w4 ⟨rfl, hq4⟩; obtain ⟨y40, y41, y42, y43⟩ := box3 (((hq1.trans hq2).trans hq3).trans hq4))
    | (go_at_call 31; refine (k5 _).mono ?_; rintro e w5 ⟨rfl, hq5⟩; obtain ⟨y50, y51, y52, y53⟩ := box3 ((((hq1.trans hq2).trans hq3).trans hq4).trans hq5))
    | (go_at_call 32; refine (k6 _).mono ?_; rintro e w6 ⟨rfl, hq6⟩; obtain ⟨y60, y61, y62, y63⟩ := box3 (((((hq1.trans hq2).trans hq3).trans hq4).trans hq5).trans hq6)))
  go_region_held3 (fun w' => w'.cell? ⟨w.heap.size, 0, none⟩ = some (.int .i64 s) ∧ w'.cell? ⟨w.heap.size, 1, none⟩ = some (.int .i64 p) ∧ w'.cell? ⟨w.heap.size, 2, none⟩ = some (.int .i64 c)) (go_keep) (first
    | (go_at_call 19; with_reducible refine (keep3 (B := w.heap.size) (x := .int .i64 s) (y := .int .i64 p) (z := .int .i64 c) (k7 _) ?_).mono ?_; (refine ⟨?_, ?_, ?_, ?_⟩ <;> (try simp) <;> assumption); rintro e w7 ⟨rfl, hq7, y70, y71, y72, y73⟩)
    | (go_at_call 33; with_reducible refine (keep3 (B := w.heap.size) (x := .int .i64 s) (y := .int .i64 p) (z := .int .i64 c) (k8 _) ?_).mono ?_; (refine ⟨?_, ?_, ?_, ?_⟩ <;> (try simp) <;> assumption); rintro e w8 ⟨rfl, hq8, y80, y81, y82, y83⟩)
    | (go_at_call 16; with_reducible refine (keep3 (B := w.heap.size) (x := .int .i64 s) (y := .int .i64 p) (z := .int .i64 c) (works_any _) ?_).mono ?_; (refine ⟨?_, ?_, ?_, ?_⟩ <;> (try simp) <;> assumption); rintro e w99 ⟨rfl, hq99, y990, y991, y992, y993⟩))
  all_goals
    go_wp2_with fail
    go_ret
    exact ⟨rfl, by repeat (first | exact Q.refl _ | assumption | refine Q.alloc ?_ _ | refine Q.drew ?_ | refine Q.drewN ?_ _ | refine Q.trans ?_ (by assumption))⟩
end Go.Proofs.Ytfhplhfgcanfbaa
