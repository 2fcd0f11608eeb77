/- The contracts of the document's Of, Week and Time. -/
import Derived.Test.YtdhlgmclogdplaaDoorRefB
namespace Go.Proofs.YtdhlgmclogdplaaDoor
open Go.RowKit
set_option linter.unusedVariables false
theorem rof_bad (t : Int) (h : ¬ Cal.timeOk t) (w : World) :
    Calls Tryd.prog 19 #[.int .i64 t] w fun e w' => e = .returned (.tuple #[.agg #[.int .i64 0, .int .i64 0, .int .i64 0, .int .i64 0, .int .i64 0, .int .i64 0], .int .i64 14]) ∧ Q w w' := by
  unfold Cal.timeOk at h
  by_cases h1 : t < 0
  · clear h
    go_enter Tryd.func19, Tryd.ntmps19
    go_wp2
    exact bodyPost_ret (v := .tuple #[.agg #[.int .i64 0, .int .i64 0, .int .i64 0, .int .i64 0, .int .i64 0, .int .i64 0], .int .i64 14]) (by simp [results, Tryd.results19, go_sem]) rfl ⟨rfl, (Q.refl _).alloc _⟩
  · have h2 : 253402300799 < t := by omega
    clear h
    go_enter Tryd.func19, Tryd.ntmps19
    go_wp2
    exact bodyPost_ret (v := .tuple #[.agg #[.int .i64 0, .int .i64 0, .int .i64 0, .int .i64 0, .int .i64 0, .int .i64 0], .int .i64 14]) (by simp [results, Tryd.results19, go_sem]) rfl ⟨rfl, (Q.refl _).alloc _⟩
theorem min_eq (t : Int) : t % 86400 / 60 % 60 = Cal.cI t := by unfold Cal.cI; omega
/-- the result's block, in a later world -/
theorem box_free {w w2 : World} {c : Array Value} {T : TypeId} (hq : Q (w.alloc (.cells c T)) w2) (j : Nat) : w2.frozen? ⟨w.heap.size, j, none⟩ = false := by
  rw [hq.frozen (p := ⟨w.heap.size, j, none⟩) (by simp)]; simp
theorem rof_good (t : Int) (h : Cal.timeOk t) (w : World) :
    Calls Tryd.prog 19 #[.int .i64 t] w fun e w' => e = .returned (.tuple #[.agg #[.int .i64 (Cal.cY t), .int .i64 (Cal.cM t), .int .i64 (Cal.cD t), .int .i64 (Cal.cH t), .int .i64 (Cal.cI t), .int .i64 (Cal.cS t)], .int .i64 0]) ∧ Q w w' := by
  have hd := Cal.day_of_time h
  have h' := h
  unfold Cal.timeOk at h'
  rw [← min_eq]
  go_enter Tryd.func19, Tryd.ntmps19
  go_wp2_with (first
    | (go_at_call 16; refine (rdate_good _ hd _).mono ?_; rintro e w1 ⟨rfl, hq1⟩; obtain ⟨k0, k1, k2, k3, k4, k5, kz⟩ := box6 hq1; have f0 := box_free hq1 0; have f1 := box_free hq1 1; have f2 := box_free hq1 2; have f3 := box_free hq1 3; have f4 := box_free hq1 4; have f5 := box_free hq1 5))
  have hs : t % 86400 % 60 = t % 60 := by omega
  refine bodyPost_ret (v := .tuple #[.agg #[.int .i64 (Cal.yr (t / 86400)), .int .i64 (Cal.mo (t / 86400)), .int .i64 (Cal.dy (t / 86400)), .int .i64 (t % 86400 / 3600), .int .i64 (t % 86400 / 60 % 60), .int .i64 (t % 60)], .int .i64 0]) (by simp [results, Tryd.results19, go_sem, k0, k1, k2, k3, k4, k5]) rfl ⟨?_, ?_⟩
  · show Ending.returned (.tuple #[.agg #[_, _, _, _, _, .int .i64 (t % 60)], _]) = Ending.returned (.tuple #[.agg #[_, _, _, _, _, .int .i64 (t % 86400 % 60)], _])
    rw [hs]
    rfl
  · exact (((((((Q.refl w).alloc _).trans hq1).setCell (Nat.le_refl _) _).setCell (Nat.le_refl _) _).setCell (Nat.le_refl _) _).setCell (Nat.le_refl _) _).setCell (Nat.le_refl _) _ |>.setCell (Nat.le_refl _) _
theorem rweek_good (t : Int) (h : Cal.timeOk t) (w : World) :
    Calls Tryd.prog 21 #[.int .i64 t] w fun e w' => e = .returned (.tuple #[.int .i64 ((t / 86400 + 4) % 7), .int .i64 0]) ∧ w = w' := by
  unfold Cal.timeOk at h
  go_enter Tryd.func21, Tryd.ntmps21
  go_wp2
  go_ret2
  exact ⟨rfl, rfl⟩
theorem rweek_bad (t : Int) (h : ¬ Cal.timeOk t) (w : World) :
    Calls Tryd.prog 21 #[.int .i64 t] w fun e w' => e = .returned (.tuple #[.int .i64 0, .int .i64 14]) ∧ w = w' := by
  unfold Cal.timeOk at h
  by_cases h1 : t < 0
  · clear h
    go_enter Tryd.func21, Tryd.ntmps21
    go_wp2
    go_ret2
    exact ⟨rfl, rfl⟩
  · have h2 : 253402300799 < t := by omega
    clear h
    go_enter Tryd.func21, Tryd.ntmps21
    go_wp2
    go_ret2
    exact ⟨rfl, rfl⟩
end Go.Proofs.YtdhlgmclogdplaaDoor
