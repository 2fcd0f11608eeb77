/- The examples of chapter 10 hold: the contract of works. -/
import Derived.Test.YtfhplhfgcanfbaaEvE
import Derived.Test.YtfhplhfgcanfbaaEvK
namespace Go.Proofs.Ytfhplhfgcanfbaa
open Go.RowKit
set_option linter.unusedVariables false
set_option linter.unusedSimpArgs false
theorem okF : Ev.Ok 100 30 4 := by decide
theorem okT : Ev.Ok 10 50 0 := by decide
theorem four_any (w : World) : Calls Try.prog 38 #[] w fun e w' => e = .returned (.agg #[.int .i64 100, .int .i64 30, .int .i64 4]) ∧ Q w w' := by
  go_enter Try.func38, Try.ntmps38
  go_wp2
  exact bodyPost_ret (v := .agg #[.int .i64 100, .int .i64 30, .int .i64 4]) (by simp [results, Try.results38, go_sem]) rfl ⟨rfl, (Q.refl _).alloc _⟩
theorem m_next (w : World) : Calls Try.prog 23 #[.agg #[.int .i64 100, .int .i64 30, .int .i64 4], .int .i64 100] w fun e w' => e = .returned (.tuple #[.int .i64 130, .bool true, .int .i64 0]) ∧ Q w w' := next_ok 100 30 4 100 okF (by decide) w
theorem meet_is : Ev.MeetR 100 30 4 10 50 0 160 true := by
  refine Or.inl ⟨rfl, by decide, by decide, fun u a b => ?_⟩
  obtain ⟨n, h0, h1, rfl⟩ := (Ev.is_iff okF u).1 a
  have hn : Ev.num 100 30 4 = 4 := by decide
  rw [hn] at h1
  have : n = 0 ∨ n = 1 ∨ n = 2 ∨ n = 3 := by omega
  rcases this with rfl | rfl | rfl | rfl
  · revert b; decide
  · revert b; decide
  · omega
  · omega
theorem m_meet (w : World) : Calls Try.prog 17 #[.agg #[.int .i64 100, .int .i64 30, .int .i64 4], .agg #[.int .i64 10, .int .i64 50, .int .i64 0]] w fun e w' => e = .returned (.tuple #[.int .i64 160, .bool true, .int .i64 0]) ∧ Q w w' := by
  refine (meet_late 100 30 4 10 50 0 okF okT (by omega) w).mono ?_
  rintro e w' ⟨⟨t, ok, rfl, h⟩, hq⟩
  obtain ⟨rfl, rfl⟩ := h.unique meet_is
  exact ⟨rfl, hq⟩
theorem m_count (w : World) : Calls Try.prog 14 #[.agg #[.int .i64 100, .int .i64 30, .int .i64 4], .int .i64 100, .int .i64 160] w fun e w' => e = .returned (.tuple #[.int .i64 3, .int .i64 0]) ∧ Q w w' := count_ok 100 30 4 100 160 okF (by decide) (by decide) w
theorem m_index (w : World) : Calls Try.prog 24 #[.agg #[.int .i64 100, .int .i64 30, .int .i64 4], .int .i64 161] w fun e w' => e = .returned (.tuple #[.int .i64 0, .int .i64 5]) ∧ Q w w' := index_out 100 30 4 161 okF (by decide) (by decide) w
theorem m_last (w : World) : Calls Try.prog 22 #[.agg #[.int .i64 0, .int .i64 1, .int .i64 0]] w fun e w' => e = .returned (.tuple #[.int .i64 253402300799, .bool true, .int .i64 0]) ∧ Q w w' := last_ok 0 1 0 (by decide) w
theorem m_check (w : World) : Calls Try.prog 19 #[.agg #[.int .i64 0, .int .i64 0, .int .i64 0]] w fun e w' => e = .returned (.int .i64 16) ∧ Q w w' := check_bad 0 0 0 (by decide) w
set_option maxHeartbeats 1000000 in
theorem works_any (w : World) : Calls Try.prog 16 #[] w fun e w' => e = .returned (.bool true) ∧ Q w w' := by
  go_enter Try.func16, Try.ntmps16
  go_wp2_with (first
    | (go_at_call 38; refine (four_any _).mono ?_; rintro e wa ⟨rfl, hqa⟩)
    | (go_at_call 23; refine (m_next _).mono ?_; rintro e wb ⟨rfl, hqb⟩)
    | (go_at_call 17; refine (m_meet _).mono ?_; rintro e wc ⟨rfl, hqc⟩)
    | (go_at_call 14; refine (m_count _).mono ?_; rintro e wd ⟨rfl, hqd⟩)
    | (go_at_call 24; refine (m_index _).mono ?_; rintro e we ⟨rfl, hqe⟩)
    | (go_at_call 22; refine (m_last _).mono ?_; rintro e wf ⟨rfl, hqf⟩)
    | (go_at_call 19; refine (m_check _).mono ?_; rintro e wg ⟨rfl, hqg⟩))
  go_ret
  exact ⟨rfl, by repeat (first | exact Q.refl _ | assumption | refine Q.alloc ?_ _ | refine Q.drew ?_ | refine Q.drewN ?_ _ | refine Q.trans ?_ (by assumption))⟩
end Go.Proofs.Ytfhplhfgcanfbaa
