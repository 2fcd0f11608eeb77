/- Comparing two timers. -/
import Derived.Test.YtnmgcjkffeeapaaDoorBase
import Derived.Shelf.SlSortCmp.Whole1
namespace Go.Proofs.YtnmgcjkffeeapaaDoor
open Go.RowKit
set_option linter.unusedVariables false
set_option linter.unusedSimpArgs false
theorem nan53 (x : Int) (w : World) : Calls Tryd.prog 53 #[.int .i64 x] w fun e w' => e = .returned (.bool false) ∧ w = w' := by
  go_enter Tryd.func53, Tryd.ntmps53
  go_wp2
  go_ret
  exact ⟨by simp, rfl⟩
theorem nan54 (x : Int) (w : World) : Calls Tryd.prog 54 #[.int .i64 x] w fun e w' => e = .returned (.bool false) ∧ w = w' := by
  go_enter Tryd.func54, Tryd.ntmps54
  go_wp2
  go_ret
  exact ⟨by simp, rfl⟩
def cmpI (a b : Int) : Int := if a < b then -1 else if b < a then 1 else 0
theorem cmp38 (a b : Int) (w : World) : Calls Tryd.prog 38 #[.int .i64 a, .int .i64 b] w fun e w' => e = .returned (.int .i64 (cmpI a b)) ∧ w = w' := by
  have k1 := nan53 a w
  have k2 := nan53 b w
  unfold cmpI
  by_cases h1 : a < b
  · rw [if_pos h1]
    go_enter Tryd.func38, Tryd.ntmps38
    go_wp2_with (first | (go_at_call 53; (with_reducible refine k1.mono ?_); rintro e w1 ⟨rfl, rfl⟩) | (go_at_call 53; (with_reducible refine k2.mono ?_); rintro e w1 ⟨rfl, rfl⟩))
    go_ret
    exact ⟨rfl, rfl⟩
  · rw [if_neg h1]
    by_cases h2 : b < a
    · rw [if_pos h2]
      go_enter Tryd.func38, Tryd.ntmps38
      go_wp2_with (first | (go_at_call 53; (with_reducible refine k1.mono ?_); rintro e w1 ⟨rfl, rfl⟩) | (go_at_call 53; (with_reducible refine k2.mono ?_); rintro e w1 ⟨rfl, rfl⟩))
      go_ret
      exact ⟨rfl, rfl⟩
    · rw [if_neg h2]
      go_enter Tryd.func38, Tryd.ntmps38
      go_wp2_with (first | (go_at_call 53; (with_reducible refine k1.mono ?_); rintro e w1 ⟨rfl, rfl⟩) | (go_at_call 53; (with_reducible refine k2.mono ?_); rintro e w1 ⟨rfl, rfl⟩))
      go_ret
      exact ⟨rfl, rfl⟩
theorem cmp39 (a b : Int) (w : World) : Calls Tryd.prog 39 #[.int .i64 a, .int .i64 b] w fun e w' => e = .returned (.int .i64 (cmpI a b)) ∧ w = w' := by
  have k1 := nan54 a w
  have k2 := nan54 b w
  unfold cmpI
  by_cases h1 : a < b
  · rw [if_pos h1]
    go_enter Tryd.func39, Tryd.ntmps39
    go_wp2_with (first | (go_at_call 54; (with_reducible refine k1.mono ?_); rintro e w1 ⟨rfl, rfl⟩) | (go_at_call 54; (with_reducible refine k2.mono ?_); rintro e w1 ⟨rfl, rfl⟩))
    go_ret
    exact ⟨rfl, rfl⟩
  · rw [if_neg h1]
    by_cases h2 : b < a
    · rw [if_pos h2]
      go_enter Tryd.func39, Tryd.ntmps39
      go_wp2_with (first | (go_at_call 54; (with_reducible refine k1.mono ?_); rintro e w1 ⟨rfl, rfl⟩) | (go_at_call 54; (with_reducible refine k2.mono ?_); rintro e w1 ⟨rfl, rfl⟩))
      go_ret
      exact ⟨rfl, rfl⟩
    · rw [if_neg h2]
      go_enter Tryd.func39, Tryd.ntmps39
      go_wp2_with (first | (go_at_call 54; (with_reducible refine k1.mono ?_); rintro e w1 ⟨rfl, rfl⟩) | (go_at_call 54; (with_reducible refine k2.mono ?_); rintro e w1 ⟨rfl, rfl⟩))
      go_ret
      exact ⟨rfl, rfl⟩
def orI (a b : Int) : Int := if a = 0 then b else a
theorem or37 (a b : Int) (g c : Nat) (w : World) (h0 : w.cell? ⟨g, 0, none⟩ = some (.int .i64 a)) (h1 : w.cell? ⟨g, 1, none⟩ = some (.int .i64 b)) : Calls Tryd.prog 37 #[.slice (some ⟨g, 0, none⟩) 2 c] w fun e w' => e = .returned (.int .i64 (orI a b)) ∧ w = w' := by
  unfold orI
  by_cases ha : a = 0
  · subst ha
    rw [if_pos rfl]
    by_cases hb : b = 0
    · subst hb
      go_enter Tryd.func37, Tryd.ntmps37
      go_wp2_with fail
      refine wp_loop_rounds 3 ?_; rw [rounds_succ]
      go_wp2_with fail
      rw [rounds_succ]
      go_wp2_with fail
      rw [rounds_succ]
      go_wp2_with fail
      go_ret
      exact ⟨rfl, rfl⟩
    · have y1 : (b != 0) = true := bne_t hb
      clear hb
      go_enter Tryd.func37, Tryd.ntmps37
      go_wp2_with fail
      refine wp_loop_rounds 3 ?_; rw [rounds_succ]
      go_wp2_with fail
      rw [rounds_succ]
      go_wp2_with fail
      go_ret
      exact ⟨rfl, rfl⟩
  · rw [if_neg ha]
    have y1 : (a != 0) = true := bne_t ha
    clear ha
    go_enter Tryd.func37, Tryd.ntmps37
    go_wp2_with fail
    refine wp_loop_rounds 3 ?_; rw [rounds_succ]
    go_wp2_with fail
    go_ret
    exact ⟨rfl, rfl⟩
set_option maxRecDepth 100000 in
theorem before_any (x y : Nat) (ax sx ay sy : Int) (w : World) (hx0 : w.cell? ⟨x, 0, none⟩ = some (.int .i64 ax)) (hx3 : w.cell? ⟨x, 3, none⟩ = some (.int .i64 sx)) (hy0 : w.cell? ⟨y, 0, none⟩ = some (.int .i64 ay)) (hy3 : w.cell? ⟨y, 3, none⟩ = some (.int .i64 sy)) :
    Calls Tryd.prog 26 #[.pointer (some ⟨x, 0, none⟩), .pointer (some ⟨y, 0, none⟩)] w fun e w' => e = .returned (.int .i64 (orI (cmpI ax ay) (cmpI sx sy))) ∧ ∃ q os, w' = Go.Sort.grow (w.drewN q) os := by
  have k1 := fun w2 => cmp38 ax ay w2
  have k2 := fun w2 => cmp39 sx sy w2
  have ko := fun g c w2 h0 h1 => or37 (cmpI ax ay) (cmpI sx sy) g c w2 h0 h1
  have lx : x < w.heap.size := lt_of_cell hx0
  have ly : y < w.heap.size := lt_of_cell hy0
  have n1 : w.heap.size ≠ x := by omega
  have n2 : w.heap.size ≠ y := by omega
  generalize cmpI ax ay = a at *
  generalize cmpI sx sy = b at *
  generalize orI a b = r at *
  go_enter Tryd.func26, Tryd.ntmps26
  go_wp2_with fail
  go_region_held3 (fun w' => w'.cell? ⟨x, 0, none⟩ = some (.int .i64 ax) ∧ w'.cell? ⟨x, 3, none⟩ = some (.int .i64 sx) ∧ w'.cell? ⟨y, 0, none⟩ = some (.int .i64 ay) ∧ w'.cell? ⟨y, 3, none⟩ = some (.int .i64 sy)) (go_keep) (first
    | (go_at_call 38; (with_reducible refine (k1 _).mono ?_); rintro e w1 ⟨rfl, rfl⟩)
    | (go_at_call 39; (with_reducible refine (k2 _).mono ?_); rintro e w1 ⟨rfl, rfl⟩)
    | (go_at_call 37; (with_reducible refine (ko _ _ _ ?_ ?_).mono ?_); (· go_simp); (· go_simp); rintro e w1 ⟨rfl, rfl⟩))
  go_wp2_with fail
  go_ret
  exact ⟨rfl, 1, _, by rw [Go.Sort.alloc_eq_grow]; rfl⟩
end Go.Proofs.YtnmgcjkffeeapaaDoor
