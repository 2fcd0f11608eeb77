/- The walk of the law ZoneShifts. -/
import Derived.Test.YtpenjmflkhhdgaaZonK
namespace Go.Proofs.Ytpenjmflkhhdgaa
open Go.RowKit
set_option linter.unusedVariables false
theorem valid_t (t : Int) (h : Cal.timeOk t) (w : World) : Calls Try.prog 26 #[.int .i64 t] w fun e w' => e = .returned (.bool true) ∧ w = w' := by
  unfold Cal.timeOk at h
  have a : decide (0 ≤ t) = true := decide_eq_true h.1
  have b : decide (t ≤ 253402300799) = true := decide_eq_true h.2
  go_enter Try.func26, Try.ntmps26
  go_wp2
  go_ret
  exact ⟨rfl, rfl⟩
theorem valid_f (t : Int) (h : ¬ Cal.timeOk t) (w : World) : Calls Try.prog 26 #[.int .i64 t] w fun e w' => e = .returned (.bool false) ∧ w = w' := by
  unfold Cal.timeOk at h
  by_cases h0 : t < 0
  · go_enter Try.func26, Try.ntmps26
    go_wp2
    go_ret
    refine ⟨?_, rfl⟩; (first | rfl | (simp; omega))
  · have h1 : 253402300799 < t := by omega
    go_enter Try.func26, Try.ntmps26
    go_wp2
    go_ret
    refine ⟨?_, rfl⟩; (first | rfl | (simp; omega))
theorem bdu16 {a : Int} (h : (Lit.int .u16 a).wf = true) : 0 ≤ a ∧ a ≤ 65535 := by
  have hmin : IntKind.u16.min = 0 := rfl
  have hmax : IntKind.u16.max = 65535 := rfl
  simp only [Lit.wf, Bool.and_eq_true, decide_eq_true_eq] at h; omega
theorem sh_e {t z : Int} (hz : Zn.zOk z) (h : ¬ Zn.shOk t z) : Zn.shE t z = 14 := by unfold Zn.shE; rw [if_pos hz, if_neg h]
theorem zoneShifts_walk (t n : Int) (wt : (Lit.int .i64 t).wf = true) (wn : (Lit.int .u16 n).wf = true) (w : World) :
    Calls Try.prog 5 #[.int .i64 t, .int .u16 n] w fun e w' => e = .returned (.bool true) ∧ Q w w' := by
  have hn := bdu16 wn
  have ht := bd64 wt
  obtain ⟨Z, hZ⟩ : ∃ Z, n % 1681 - 840 = Z := ⟨_, rfl⟩
  have hz : Zn.zOk Z := by unfold Zn.zOk; omega
  by_cases h1 : Cal.timeOk t
  · by_cases h2 : Cal.timeOk (t + 60 * Z)
    · have h : Zn.shOk t Z := ⟨hz, h1, h2⟩
      have b1 := h1
      unfold Cal.timeOk at b1
      have b2 := hz
      unfold Zn.zOk at b2
      have he := fun w2 => eql6 (Cal.cY (t + 60 * Z)) (Cal.cM (t + 60 * Z)) (Cal.cD (t + 60 * Z)) (Cal.cH (t + 60 * Z)) (Cal.cI (t + 60 * Z)) (Cal.cS (t + 60 * Z)) (Cal.cY (t + 60 * Z)) (Cal.cM (t + 60 * Z)) (Cal.cD (t + 60 * Z)) (Cal.cH (t + 60 * Z)) (Cal.cI (t + 60 * Z)) (Cal.cS (t + 60 * Z)) w2
      simp only [same6_refl] at he
      go_enter Try.func5, Try.ntmps5
      go_wp2_with (first
        | (go_at_call 20; refine (local_ok _ _ h _).mono ?_; rintro e w1 ⟨rfl, hq1⟩)
        | (go_at_call 26; with_reducible refine (valid_t _ h1 _).mono ?_; rintro e w3 ⟨rfl, rfl⟩)
        | (go_at_call 26; with_reducible refine (valid_t _ h2 _).mono ?_; rintro e w3 ⟨rfl, rfl⟩)
        | (go_at_call 27; refine (of_good _ h2 _).mono ?_; rintro e w2 ⟨rfl, hq2⟩; obtain ⟨k0, k1, k2, k3, k4, k5, kz⟩ := box6 hq2)
        | (go_at_call 24; refine (zweek_ok _ _ h _).mono ?_; rintro e w5 ⟨rfl, rfl⟩)
        | (go_at_call 28; refine (week_good _ h2 _).mono ?_; rintro e w6 ⟨rfl, rfl⟩)
        | (go_at_call 13; refine (works_any _).mono ?_; rintro e w7 ⟨rfl, hq7⟩))
      go_ret
      exact ⟨rfl, by repeat (first | exact Q.refl _ | assumption | refine Q.alloc ?_ _ | refine Q.drew ?_ | refine Q.trans ?_ (by assumption))⟩
    · have h : ¬ Zn.shOk t Z := fun k => h2 k.2.2
      have hs := sh_e hz h
      have b1 := h1
      unfold Cal.timeOk at b1
      have b2 := hz
      unfold Zn.zOk at b2
      go_enter Try.func5, Try.ntmps5
      go_wp2_with (first
        | (go_at_call 20; refine (local_err _ _ h _).mono ?_; rw [hs]; rintro e w1 ⟨rfl, hq1⟩)
        | (go_at_call 26; with_reducible refine (valid_t _ h1 _).mono ?_; rintro e w3 ⟨rfl, rfl⟩)
        | (go_at_call 26; with_reducible refine (valid_f _ h2 _).mono ?_; rintro e w3 ⟨rfl, rfl⟩)
        | (go_at_call 13; refine (works_any _).mono ?_; rintro e w7 ⟨rfl, hq7⟩))
      go_ret
      exact ⟨rfl, by repeat (first | exact Q.refl _ | assumption | refine Q.alloc ?_ _ | refine Q.drew ?_ | refine Q.trans ?_ (by assumption))⟩
  · have h : ¬ Zn.shOk t Z := fun k => h1 k.2.1
    have hs := sh_e hz h
    go_enter Try.func5, Try.ntmps5
    go_wp2_with (first
      | (go_at_call 20; refine (local_err _ _ h _).mono ?_; rw [hs]; rintro e w1 ⟨rfl, hq1⟩)
      | (go_at_call 26; with_reducible refine (valid_f _ h1 _).mono ?_; rintro e w3 ⟨rfl, rfl⟩)
      | (go_at_call 13; refine (works_any _).mono ?_; rintro e w7 ⟨rfl, hq7⟩))
    go_ret
    exact ⟨rfl, by repeat (first | exact Q.refl _ | assumption | refine Q.alloc ?_ _ | refine Q.drew ?_ | refine Q.trans ?_ (by assumption))⟩
end Go.Proofs.Ytpenjmflkhhdgaa
