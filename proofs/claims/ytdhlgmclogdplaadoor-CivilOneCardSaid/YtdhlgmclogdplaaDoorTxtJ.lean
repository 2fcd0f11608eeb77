/- The contracts of the program's Leap and Length, and of both Orders. -/
import Derived.Test.YtdhlgmclogdplaaDoorTxtA
import Derived.Test.YtdhlgmclogdplaaDoorRefD
import Derived.Test.YtdhlgmclogdplaaDoorCivp
import Derived.Deep.RegionHeld3
import Derived.KernelRfl
namespace Go.Proofs.YtdhlgmclogdplaaDoor
open Go.RowKit
set_option linter.unusedVariables false
set_option linter.unusedSimpArgs false
theorem leap_any (y : Int) (w : World) :
    Calls Tryd.prog 31 #[.int .i64 y] w fun e w' => e = .returned (.bool (Cal.leap y)) ∧ w = w' := by
  unfold Cal.leap
  by_cases a : y % 4 = 0 <;> by_cases b : y % 100 = 0 <;> by_cases c : y % 400 = 0 <;> first | (exfalso; omega) |
  · have b4 : (y.tmod 4 == 0) = decide (y % 4 = 0) := Cal.tmod_beq y 4
    have b100 : (y.tmod 100 == 0) = decide (y % 100 = 0) := Cal.tmod_beq y 100
    have b400 : (y.tmod 400 == 0) = decide (y % 400 = 0) := Cal.tmod_beq y 400
    simp only [a, b, c, decide_true, decide_false, Bool.not_true, Bool.not_false] at b4 b100 b400
    simp only [a, b, c]
    clear a b c
    go_enter Tryd.func31, Tryd.ntmps31
    go_wp2
    go_ret
    exact ⟨by simp, rfl⟩
theorem len_bad (y m : Int) (h : y < 1970 ∨ 9999 < y ∨ m < 1 ∨ 12 < m) (w : World) :
    Calls Tryd.prog 28 #[.int .i64 y, .int .i64 m] w fun e w' => e = .returned (.tuple #[.int .i64 0, .int .i64 2]) ∧ w = w' := by
  by_cases h1 : y < 1970
  · clear h
    go_enter Tryd.func28, Tryd.ntmps28
    go_wp2
    go_ret2
    exact ⟨rfl, rfl⟩
  by_cases h2 : 9999 < y
  · clear h
    go_enter Tryd.func28, Tryd.ntmps28
    go_wp2
    go_ret2
    exact ⟨rfl, rfl⟩
  by_cases h3 : m < 1
  · clear h
    go_enter Tryd.func28, Tryd.ntmps28
    go_wp2
    go_ret2
    exact ⟨rfl, rfl⟩
  · have h4 : 12 < m := by omega
    clear h
    go_enter Tryd.func28, Tryd.ntmps28
    go_wp2
    go_ret2
    exact ⟨rfl, rfl⟩
theorem ix_0 (w : World) : (Instr.index 59 (.agg #[.int .i64 31, .int .i64 28, .int .i64 31, .int .i64 30, .int .i64 31, .int .i64 30, .int .i64 31, .int .i64 31, .int .i64 30, .int .i64 31, .int .i64 30, .int .i64 31]) (.int .i64 0)).run Tryd.prog w = .ok (.int .i64 31) w := by kernel_rfl
theorem ix_1 (w : World) : (Instr.index 59 (.agg #[.int .i64 31, .int .i64 28, .int .i64 31, .int .i64 30, .int .i64 31, .int .i64 30, .int .i64 31, .int .i64 31, .int .i64 30, .int .i64 31, .int .i64 30, .int .i64 31]) (.int .i64 1)).run Tryd.prog w = .ok (.int .i64 28) w := by kernel_rfl
theorem ix_2 (w : World) : (Instr.index 59 (.agg #[.int .i64 31, .int .i64 28, .int .i64 31, .int .i64 30, .int .i64 31, .int .i64 30, .int .i64 31, .int .i64 31, .int .i64 30, .int .i64 31, .int .i64 30, .int .i64 31]) (.int .i64 2)).run Tryd.prog w = .ok (.int .i64 31) w := by kernel_rfl
theorem ix_3 (w : World) : (Instr.index 59 (.agg #[.int .i64 31, .int .i64 28, .int .i64 31, .int .i64 30, .int .i64 31, .int .i64 30, .int .i64 31, .int .i64 31, .int .i64 30, .int .i64 31, .int .i64 30, .int .i64 31]) (.int .i64 3)).run Tryd.prog w = .ok (.int .i64 30) w := by kernel_rfl
theorem ix_4 (w : World) : (Instr.index 59 (.agg #[.int .i64 31, .int .i64 28, .int .i64 31, .int .i64 30, .int .i64 31, .int .i64 30, .int .i64 31, .int .i64 31, .int .i64 30, .int .i64 31, .int .i64 30, .int .i64 31]) (.int .i64 4)).run Tryd.prog w = .ok (.int .i64 31) w := by kernel_rfl
theorem ix_5 (w : World) : (Instr.index 59 (.agg #[.int .i64 31, .int .i64 28, .int .i64 31, .int .i64 30, .int .i64 31, .int .i64 30, .int .i64 31, .int .i64 31, .int .i64 30, .int .i64 31, .int .i64 30, .int .i64 31]) (.int .i64 5)).run Tryd.prog w = .ok (.int .i64 30) w := by kernel_rfl
theorem ix_6 (w : World) : (Instr.index 59 (.agg #[.int .i64 31, .int .i64 28, .int .i64 31, .int .i64 30, .int .i64 31, .int .i64 30, .int .i64 31, .int .i64 31, .int .i64 30, .int .i64 31, .int .i64 30, .int .i64 31]) (.int .i64 6)).run Tryd.prog w = .ok (.int .i64 31) w := by kernel_rfl
theorem ix_7 (w : World) : (Instr.index 59 (.agg #[.int .i64 31, .int .i64 28, .int .i64 31, .int .i64 30, .int .i64 31, .int .i64 30, .int .i64 31, .int .i64 31, .int .i64 30, .int .i64 31, .int .i64 30, .int .i64 31]) (.int .i64 7)).run Tryd.prog w = .ok (.int .i64 31) w := by kernel_rfl
theorem ix_8 (w : World) : (Instr.index 59 (.agg #[.int .i64 31, .int .i64 28, .int .i64 31, .int .i64 30, .int .i64 31, .int .i64 30, .int .i64 31, .int .i64 31, .int .i64 30, .int .i64 31, .int .i64 30, .int .i64 31]) (.int .i64 8)).run Tryd.prog w = .ok (.int .i64 30) w := by kernel_rfl
theorem ix_9 (w : World) : (Instr.index 59 (.agg #[.int .i64 31, .int .i64 28, .int .i64 31, .int .i64 30, .int .i64 31, .int .i64 30, .int .i64 31, .int .i64 31, .int .i64 30, .int .i64 31, .int .i64 30, .int .i64 31]) (.int .i64 9)).run Tryd.prog w = .ok (.int .i64 31) w := by kernel_rfl
theorem ix_10 (w : World) : (Instr.index 59 (.agg #[.int .i64 31, .int .i64 28, .int .i64 31, .int .i64 30, .int .i64 31, .int .i64 30, .int .i64 31, .int .i64 31, .int .i64 30, .int .i64 31, .int .i64 30, .int .i64 31]) (.int .i64 10)).run Tryd.prog w = .ok (.int .i64 30) w := by kernel_rfl
theorem ix_11 (w : World) : (Instr.index 59 (.agg #[.int .i64 31, .int .i64 28, .int .i64 31, .int .i64 30, .int .i64 31, .int .i64 30, .int .i64 31, .int .i64 31, .int .i64 30, .int .i64 31, .int .i64 30, .int .i64 31]) (.int .i64 11)).run Tryd.prog w = .ok (.int .i64 31) w := by kernel_rfl
set_option maxHeartbeats 2000000 in
theorem len_good (y m : Int) (hy : 1970 ≤ y ∧ y ≤ 9999) (hm : 1 ≤ m ∧ m ≤ 12) (w : World) :
    Calls Tryd.prog 28 #[.int .i64 y, .int .i64 m] w fun e w' => e = .returned (.tuple #[.int .i64 (Cal.dim y m), .int .i64 0]) ∧ w = w' := by
  by_cases hl : m = 2 ∧ Cal.leap y = true
  · obtain ⟨rfl, hl⟩ := hl
    have e : Cal.dim y 2 = 29 := by unfold Cal.dim Cal.lp; rw [if_pos rfl, if_pos hl]; rfl
    rw [e]; clear e
    go_enter Tryd.func28, Tryd.ntmps28
    go_wp2_with (go_at_call 31; refine (leap_any _ _).mono ?_; rintro e w' ⟨rfl, rfl⟩)
    go_ret2
    exact ⟨rfl, rfl⟩
  · rcases Cal.month_cases hm.1 hm.2 with h | h | h | h | h | h | h | h | h | h | h | h
    all_goals
      subst h
      first
        | (have hl' : Cal.leap y = false := by simpa using hl
           have e : Cal.dim y 2 = 28 := by unfold Cal.dim Cal.lp; rw [if_pos rfl, if_neg (by rw [hl']; simp)]; rfl
           rw [e]; clear e)
        | (rw [show Cal.dim y _ = 31 from rfl])
        | (rw [show Cal.dim y _ = 30 from rfl])
      clear hl
      have x0 := ix_0
      have x1 := ix_1
      have x2 := ix_2
      have x3 := ix_3
      have x4 := ix_4
      have x5 := ix_5
      have x6 := ix_6
      have x7 := ix_7
      have x8 := ix_8
      have x9 := ix_9
      have x10 := ix_10
      have x11 := ix_11
      go_enter Tryd.func28, Tryd.ntmps28
      go_wp2_with (go_at_call 31; refine (leap_any _ _).mono ?_; rintro e w' ⟨rfl, rfl⟩)
      go_ret2
      exact ⟨rfl, rfl⟩
/-- a block that holds these numbers -/
def Row (B : Nat) (l : List Int) (w : World) : Prop := B < w.heap.size ∧ ∀ i, i < l.length → w.cell? ⟨B, i, none⟩ = some (.int .i64 (l.getD i 0))
theorem Row.later {B : Nat} {l : List Int} {w w' : World} (h : Row B l w) (q : Q w w') : Row B l w' :=
  ⟨Nat.lt_of_lt_of_le h.1 q.size, fun i hi => (q.cell (p := ⟨B, i, none⟩) h.1).trans (h.2 i hi)⟩
theorem Row.six {B : Nat} {a b c d e f : Int} {w : World} (h : Row B [a, b, c, d, e, f] w) : w.cell? ⟨B, 0, none⟩ = some (.int .i64 a) ∧ w.cell? ⟨B, 1, none⟩ = some (.int .i64 b) ∧ w.cell? ⟨B, 2, none⟩ = some (.int .i64 c) ∧ w.cell? ⟨B, 3, none⟩ = some (.int .i64 d) ∧ w.cell? ⟨B, 4, none⟩ = some (.int .i64 e) ∧ w.cell? ⟨B, 5, none⟩ = some (.int .i64 f) ∧ B < w.heap.size :=
  ⟨h.2 0 (by simp), h.2 1 (by simp), h.2 2 (by simp), h.2 3 (by simp), h.2 4 (by simp), h.2 5 (by simp), h.1⟩
theorem Row.new (w : World) (a b c d e f : Int) (T : TypeId) : Row w.heap.size [a, b, c, d, e, f] (w.alloc (.cells #[.int .i64 a, .int .i64 b, .int .i64 c, .int .i64 d, .int .i64 e, .int .i64 f] T)) := by
  refine ⟨by simp, fun i hi => ?_⟩
  have hi : i < 6 := hi
  rcases (show i = 0 ∨ i = 1 ∨ i = 2 ∨ i = 3 ∨ i = 4 ∨ i = 5 by omega) with rfl | rfl | rfl | rfl | rfl | rfl <;> simp
theorem fields_any (a b c d e f : Int) (w : World) :
    Calls Tryd.prog 44 #[.agg #[.int .i64 a, .int .i64 b, .int .i64 c, .int .i64 d, .int .i64 e, .int .i64 f]] w fun z w' => ∃ B : Nat, z = .returned (.slice (some ⟨B, 0, none⟩) 6 6) ∧ Q w w' ∧ Row B [a, b, c, d, e, f] w' := by
  go_enter Tryd.func44, Tryd.ntmps44
  go_wp2_with fail
  go_ret
  exact ⟨_, rfl, ((Q.refl w).alloc _).alloc _, by simpa using Row.new (w.alloc _) a b c d e f _⟩
end Go.Proofs.YtdhlgmclogdplaaDoor
