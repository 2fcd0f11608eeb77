/- The contracts of civil.Of, Week and Time. -/
import Derived.Test.YtdhlgmclogdplaaDoorCivA
namespace Go.Proofs.YtdhlgmclogdplaaDoor
open Go.RowKit
set_option linter.unusedVariables false
theorem cvalid_good (t : Int) (h : Cal.timeOk t) (w : World) :
    Calls Tryd.prog 37 #[.int .i64 t] w fun e w' => e = .returned (.bool true) ∧ w = w' := by
  unfold Cal.timeOk at h
  go_enter Tryd.func37, Tryd.ntmps37
  go_wp2
  go_ret
  exact ⟨rfl, rfl⟩
theorem cvalid_bad (t : Int) (h : ¬ Cal.timeOk t) (w : World) :
    Calls Tryd.prog 37 #[.int .i64 t] w fun e w' => e = .returned (.bool false) ∧ w = w' := by
  unfold Cal.timeOk at h
  by_cases h1 : t < 0
  · go_enter Tryd.func37, Tryd.ntmps37
    go_wp2
    go_ret
    exact ⟨rfl, rfl⟩
  · have h2 : decide (t ≤ 253402300799) = false := decide_eq_false (by omega)
    go_enter Tryd.func37, Tryd.ntmps37
    go_wp2
    go_ret
    exact ⟨rfl, rfl⟩
/-- a civil time as a value -/
def civ (y m d h i s : Int) : Value := .agg #[.int .i64 y, .int .i64 m, .int .i64 d, .int .i64 h, .int .i64 i, .int .i64 s]
theorem of_bad (t : Int) (h : ¬ Cal.timeOk t) (w : World) :
    Calls Tryd.prog 18 #[.int .i64 t] w fun e w' => e = .returned (.tuple #[.agg #[.int .i64 0, .int .i64 0, .int .i64 0, .int .i64 0, .int .i64 0, .int .i64 0], .int .i64 14]) ∧ Q w w' := by
  go_enter Tryd.func18, Tryd.ntmps18
  go_wp2_with (go_at_call 37; refine (cvalid_bad _ h _).mono ?_; rintro e w1 ⟨rfl, rfl⟩)
  exact bodyPost_ret (v := .tuple #[.agg #[.int .i64 0, .int .i64 0, .int .i64 0, .int .i64 0, .int .i64 0, .int .i64 0], .int .i64 14]) (by simp [results, Tryd.results18, go_sem]) rfl ⟨rfl, (Q.refl _).alloc _⟩
theorem of_good (t : Int) (h : Cal.timeOk t) (w : World) :
    Calls Tryd.prog 18 #[.int .i64 t] w fun e w' => e = .returned (.tuple #[.agg #[.int .i64 (Cal.cY t), .int .i64 (Cal.cM t), .int .i64 (Cal.cD t), .int .i64 (Cal.cH t), .int .i64 (Cal.cI t), .int .i64 (Cal.cS t)], .int .i64 0]) ∧ Q w w' := by
  have hd := Cal.day_of_time h
  have h' := h
  unfold Cal.timeOk at h'
  go_enter Tryd.func18, Tryd.ntmps18
  go_wp2_with (first
    | (go_at_call 37; refine (cvalid_good _ h _).mono ?_; rintro e w1 ⟨rfl, rfl⟩)
    | (go_at_call 15; refine (date_good _ hd _).mono ?_; rintro e w1 ⟨rfl, rfl⟩))
  exact bodyPost_ret (v := .tuple #[.agg #[.int .i64 (Cal.yr (t / 86400)), .int .i64 (Cal.mo (t / 86400)), .int .i64 (Cal.dy (t / 86400)), .int .i64 (t % 86400 / 3600), .int .i64 (t % 86400 % 3600 / 60), .int .i64 (t % 86400 % 60)], .int .i64 0]) (by simp [results, Tryd.results18, go_sem]) rfl ⟨rfl, (Q.refl _).alloc _⟩
theorem week_good (t : Int) (h : Cal.timeOk t) (w : World) :
    Calls Tryd.prog 20 #[.int .i64 t] w fun e w' => e = .returned (.tuple #[.int .i64 ((t / 86400 + 4) % 7), .int .i64 0]) ∧ w = w' := by
  have h' := h
  unfold Cal.timeOk at h'
  go_enter Tryd.func20, Tryd.ntmps20
  go_wp2_with (go_at_call 37; refine (cvalid_good _ h _).mono ?_; rintro e w1 ⟨rfl, rfl⟩)
  go_ret2
  exact ⟨rfl, rfl⟩
theorem week_bad (t : Int) (h : ¬ Cal.timeOk t) (w : World) :
    Calls Tryd.prog 20 #[.int .i64 t] w fun e w' => e = .returned (.tuple #[.int .i64 0, .int .i64 14]) ∧ w = w' := by
  go_enter Tryd.func20, Tryd.ntmps20
  go_wp2_with (go_at_call 37; refine (cvalid_bad _ h _).mono ?_; rintro e w1 ⟨rfl, rfl⟩)
  go_ret2
  exact ⟨rfl, rfl⟩
/-- both civil times are the same -/
def same6 (y m d h i s y' m' d' h' i' s' : Int) : Bool := y == y' && (m == m' && (d == d' && (h == h' && (i == i' && s == s'))))
theorem same6_refl (y m d h i s : Int) : same6 y m d h i s y m d h i s = true := by simp [same6]
theorem same6_iff (y m d h i s y' m' d' h' i' s' : Int) : same6 y m d h i s y' m' d' h' i' s' = true ↔ (y = y' ∧ m = m' ∧ d = d' ∧ h = h' ∧ i = i' ∧ s = s') := by simp [same6]
theorem eq6 (y m d h i s y' m' d' h' i' s' : Int) (n : Nat) (w : World) : (Op.equalIn (n + 2) 28 (.agg #[.int .i64 y, .int .i64 m, .int .i64 d, .int .i64 h, .int .i64 i, .int .i64 s]) (.agg #[.int .i64 y', .int .i64 m', .int .i64 d', .int .i64 h', .int .i64 i', .int .i64 s'])).run Tryd.prog w = .ok (same6 y m d h i s y' m' d' h' i' s') w := by
  have e := eq_i64 n
  simp only [same6]
  simp [go_sem, e]
  (repeat' split) <;> simp_all
theorem neq6 (y m d h i s y' m' d' h' i' s' : Int) (w : World) : (binOp .neq 28 (.agg #[.int .i64 y, .int .i64 m, .int .i64 d, .int .i64 h, .int .i64 i, .int .i64 s]) (.agg #[.int .i64 y', .int .i64 m', .int .i64 d', .int .i64 h', .int .i64 i', .int .i64 s'])).run Tryd.prog w = .ok (.bool (!same6 y m d h i s y' m' d' h' i' s')) w := by
  rw [run_neq_struct, eq6]; rfl
theorem eql6 (y m d h i s y' m' d' h' i' s' : Int) (w : World) : (binOp .eql 28 (.agg #[.int .i64 y, .int .i64 m, .int .i64 d, .int .i64 h, .int .i64 i, .int .i64 s]) (.agg #[.int .i64 y', .int .i64 m', .int .i64 d', .int .i64 h', .int .i64 i', .int .i64 s'])).run Tryd.prog w = .ok (.bool (same6 y m d h i s y' m' d' h' i' s')) w := by
  rw [run_eql_struct, eq6]; rfl
end Go.Proofs.YtdhlgmclogdplaaDoor
