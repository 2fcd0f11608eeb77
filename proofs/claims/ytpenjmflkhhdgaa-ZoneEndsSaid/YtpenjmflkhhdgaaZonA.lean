/- The contracts of zone's and the document's functions on times: Check, shown, Local, Midnight, Week. -/
import Derived.Test.YtpenjmflkhhdgaaRefD
namespace Zn
/-! ### plain words -/
def zOk (z : Int) : Prop := -840 ≤ z ∧ z ≤ 840
instance (z : Int) : Decidable (zOk z) := by unfold zOk; infer_instance
def shOk (t z : Int) : Prop := zOk z ∧ Cal.timeOk t ∧ Cal.timeOk (t + 60 * z)
instance (t z : Int) : Decidable (shOk t z) := by unfold shOk; infer_instance
/-- the error of shown, Local, Week -/
def shE (t z : Int) : Int := if zOk z then (if shOk t z then 0 else 14) else 2
theorem shE_ne {t z : Int} (h : ¬ shOk t z) : shE t z ≠ 0 := by
  by_cases hz : zOk z
  · unfold shE; rw [if_pos hz, if_neg h]; decide
  · unfold shE; rw [if_neg hz]; decide
theorem shE_z {t z : Int} (h : ¬ zOk z) : shE t z = 2 := if_neg h
theorem shE_t {t z : Int} (h : zOk z) (h' : ¬ shOk t z) : shE t z = 14 := by unfold shE; rw [if_pos h, if_neg h']
end Zn
namespace Go.Proofs.Ytpenjmflkhhdgaa
open Go.RowKit
set_option linter.unusedVariables false
theorem check_ok (z : Int) (h : Zn.zOk z) (w : World) : Calls Try.prog 18 #[.int .i64 z] w fun e w' => e = .returned (.int .i64 0) ∧ w = w' := by
  unfold Zn.zOk at h
  go_enter Try.func18, Try.ntmps18
  go_wp2
  go_ret
  exact ⟨rfl, rfl⟩
theorem check_bad (z : Int) (h : ¬ Zn.zOk z) (w : World) : Calls Try.prog 18 #[.int .i64 z] w fun e w' => e = .returned (.int .i64 2) ∧ w = w' := by
  unfold Zn.zOk at h
  by_cases h1 : z < -840
  · clear h
    go_enter Try.func18, Try.ntmps18
    go_wp2
    go_ret
    exact ⟨rfl, rfl⟩
  · have h2 : 840 < z := by omega
    clear h
    go_enter Try.func18, Try.ntmps18
    go_wp2
    go_ret
    exact ⟨rfl, rfl⟩
theorem rcheck_ok (z : Int) (h : Zn.zOk z) (w : World) : Calls Try.prog 19 #[.int .i64 z] w fun e w' => e = .returned (.int .i64 0) ∧ w = w' := by
  unfold Zn.zOk at h
  go_enter Try.func19, Try.ntmps19
  go_wp2
  go_ret
  exact ⟨rfl, rfl⟩
theorem rcheck_bad (z : Int) (h : ¬ Zn.zOk z) (w : World) : Calls Try.prog 19 #[.int .i64 z] w fun e w' => e = .returned (.int .i64 2) ∧ w = w' := by
  unfold Zn.zOk at h
  by_cases h1 : z < -840
  · clear h
    go_enter Try.func19, Try.ntmps19
    go_wp2
    go_ret
    exact ⟨rfl, rfl⟩
  · have h2 : 840 < z := by omega
    clear h
    go_enter Try.func19, Try.ntmps19
    go_wp2
    go_ret
    exact ⟨rfl, rfl⟩
theorem rvalid_good (t : Int) (h : Cal.timeOk t) (w : World) :
    Calls Try.prog 43 #[.int .i64 t] w fun e w' => e = .returned (.bool true) ∧ w = w' := by
  unfold Cal.timeOk at h
  go_enter Try.func43, Try.ntmps43
  go_wp2
  go_ret
  exact ⟨rfl, rfl⟩
theorem rvalid_bad (t : Int) (h : ¬ Cal.timeOk t) (w : World) :
    Calls Try.prog 43 #[.int .i64 t] w fun e w' => e = .returned (.bool false) ∧ w = w' := by
  unfold Cal.timeOk at h
  by_cases h1 : t < 0
  · go_enter Try.func43, Try.ntmps43
    go_wp2
    go_ret
    exact ⟨rfl, rfl⟩
  · have h2 : decide (t ≤ 253402300799) = false := decide_eq_false (by omega)
    go_enter Try.func43, Try.ntmps43
    go_wp2
    go_ret
    exact ⟨rfl, rfl⟩
theorem shown_ok (t z : Int) (h : Zn.shOk t z) (w : World) :
    Calls Try.prog 35 #[.int .i64 t, .int .i64 z] w fun e w' => e = .returned (.tuple #[.int .i64 (t + 60 * z), .int .i64 0]) ∧ w = w' := by
  obtain ⟨hz, h1, h2⟩ := h
  unfold Cal.timeOk at h1 h2
  have hz' := hz
  unfold Zn.zOk at hz'
  go_enter Try.func35, Try.ntmps35
  go_wp2_with (go_at_call 18; refine (check_ok _ hz _).mono ?_; rintro e w1 ⟨rfl, rfl⟩)
  go_ret2
  exact ⟨rfl, rfl⟩
theorem shown_err (t z : Int) (h : ¬ Zn.shOk t z) (w : World) :
    Calls Try.prog 35 #[.int .i64 t, .int .i64 z] w fun e w' => e = .returned (.tuple #[.int .i64 0, .int .i64 (Zn.shE t z)]) ∧ w = w' := by
  by_cases hz : Zn.zOk z
  · rw [Zn.shE_t hz h]
    unfold Zn.shOk at h
    have hz' := hz
    unfold Zn.zOk at hz'
    by_cases h1 : t < 0
    · clear h
      go_enter Try.func35, Try.ntmps35
      go_wp2_with (go_at_call 18; refine (check_ok _ hz _).mono ?_; rintro e w1 ⟨rfl, rfl⟩)
      go_ret2
      exact ⟨rfl, rfl⟩
    by_cases h2 : 253402300799 < t
    · clear h
      go_enter Try.func35, Try.ntmps35
      go_wp2_with (go_at_call 18; refine (check_ok _ hz _).mono ?_; rintro e w1 ⟨rfl, rfl⟩)
      go_ret2
      exact ⟨rfl, rfl⟩
    by_cases h3 : t + 60 * z < 0
    · clear h
      go_enter Try.func35, Try.ntmps35
      go_wp2_with (go_at_call 18; refine (check_ok _ hz _).mono ?_; rintro e w1 ⟨rfl, rfl⟩)
      go_ret2
      exact ⟨rfl, rfl⟩
    · have h4 : 253402300799 < t + 60 * z := by
        by_cases hc : t + 60 * z ≤ 253402300799
        · exact absurd ⟨hz, ⟨by omega, by omega⟩, ⟨by omega, hc⟩⟩ h
        · omega
      clear h
      go_enter Try.func35, Try.ntmps35
      go_wp2_with (go_at_call 18; refine (check_ok _ hz _).mono ?_; rintro e w1 ⟨rfl, rfl⟩)
      go_ret2
      exact ⟨rfl, rfl⟩
  · rw [Zn.shE_z hz]
    go_enter Try.func35, Try.ntmps35
    go_wp2_with (go_at_call 18; refine (check_bad _ hz _).mono ?_; rintro e w1 ⟨rfl, rfl⟩)
    go_ret2
    exact ⟨rfl, rfl⟩
theorem rshown_ok (t z : Int) (h : Zn.shOk t z) (w : World) :
    Calls Try.prog 36 #[.int .i64 t, .int .i64 z] w fun e w' => e = .returned (.tuple #[.int .i64 (t + 60 * z), .int .i64 0]) ∧ w = w' := by
  obtain ⟨hz, h1, h2⟩ := h
  have h1' := h1
  have h2' := h2
  unfold Cal.timeOk at h1' h2'
  have hz' := hz
  unfold Zn.zOk at hz'
  go_enter Try.func36, Try.ntmps36
  go_wp2_with (first
    | (go_at_call 19; refine (rcheck_ok _ hz _).mono ?_; rintro e w1 ⟨rfl, rfl⟩)
    | (go_at_call 43; (with_reducible refine (rvalid_good t h1 _).mono ?_); rintro e w1 ⟨rfl, rfl⟩)
    | (go_at_call 43; (with_reducible refine (rvalid_good (t + 60 * z) h2 _).mono ?_); rintro e w1 ⟨rfl, rfl⟩))
  go_ret2
  exact ⟨rfl, rfl⟩
theorem rshown_err (t z : Int) (h : ¬ Zn.shOk t z) (w : World) :
    Calls Try.prog 36 #[.int .i64 t, .int .i64 z] w fun e w' => e = .returned (.tuple #[.int .i64 0, .int .i64 (Zn.shE t z)]) ∧ w = w' := by
  by_cases hz : Zn.zOk z
  · rw [Zn.shE_t hz h]
    unfold Zn.shOk at h
    have hz' := hz
    unfold Zn.zOk at hz'
    by_cases h1 : Cal.timeOk t
    · have h2 : ¬ Cal.timeOk (t + 60 * z) := fun hc => h ⟨hz, h1, hc⟩
      have h1' := h1
      unfold Cal.timeOk at h1'
      clear h
      go_enter Try.func36, Try.ntmps36
      go_wp2_with (first
        | (go_at_call 19; refine (rcheck_ok _ hz _).mono ?_; rintro e w1 ⟨rfl, rfl⟩)
        | (go_at_call 43; (with_reducible refine (rvalid_good t h1 _).mono ?_); rintro e w1 ⟨rfl, rfl⟩)
        | (go_at_call 43; (with_reducible refine (rvalid_bad (t + 60 * z) h2 _).mono ?_); rintro e w1 ⟨rfl, rfl⟩))
      go_ret2
      exact ⟨rfl, rfl⟩
    · clear h
      go_enter Try.func36, Try.ntmps36
      go_wp2_with (first
        | (go_at_call 19; refine (rcheck_ok _ hz _).mono ?_; rintro e w1 ⟨rfl, rfl⟩)
        | (go_at_call 43; (with_reducible refine (rvalid_bad t h1 _).mono ?_); rintro e w1 ⟨rfl, rfl⟩))
      go_ret2
      exact ⟨rfl, rfl⟩
  · rw [Zn.shE_z hz]
    go_enter Try.func36, Try.ntmps36
    go_wp2_with (go_at_call 19; refine (rcheck_bad _ hz _).mono ?_; rintro e w1 ⟨rfl, rfl⟩)
    go_ret2
    exact ⟨rfl, rfl⟩
end Go.Proofs.Ytpenjmflkhhdgaa
