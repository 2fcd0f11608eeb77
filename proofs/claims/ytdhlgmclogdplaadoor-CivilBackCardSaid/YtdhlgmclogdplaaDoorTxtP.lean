/- The walks of the laws CivilBack, CivilGrows, CivilOrders. -/
import Derived.Test.YtdhlgmclogdplaaDoorTxtN
import Derived.Test.YtdhlgmclogdplaaDoorTxtO
namespace Go.Proofs.YtdhlgmclogdplaaDoor
open Go.RowKit
set_option linter.unusedVariables false
set_option linter.unusedSimpArgs false
set_option maxRecDepth 20000 in
set_option maxHeartbeats 2000000 in
theorem civilBack_walk (t : Int) (w0 : (Lit.int .i64 t).wf = true) (w : World) (hT : Tab w) :
    Calls Tryd.prog 6 #[.int .i64 t] w fun e w' => e = .returned (.bool true) ∧ Q w w' := by
  clear w0
  by_cases h : Cal.timeOk t
  · have k1 := fun w2 => of_good t h w2
    have k2 := fun w2 (ht : Tab w2) => text_any t w2 ht
    have g := Cal.good_of h
    have k3 := fun w2 => time_good _ _ _ _ _ _ g.1 w2
    have hv : (tx t).size < 9223372036854775808 := by rw [tx_size h]; omega
    have k4 := fun w2 => parse_any (tx t) hv w2
    have k5 := fun w2 => date_good (t / 86400) (Cal.day_of_time h) w2
    have hd := Cal.date_valid (Cal.day_of_time h).1 (Cal.day_of_time h).2
    have k6 := fun w2 => days_good _ _ _ hd.1 w2
    have hz := tx_size h
    rw [g.2] at k3
    rw [(parse_text h).1, (parse_text h).2] at k4
    rw [ofE_good t h] at k2
    rw [hd.2] at k6
    have e1 : Cal.cY t = Cal.yr (t / 86400) := rfl
    have e2 : Cal.cM t = Cal.mo (t / 86400) := rfl
    have e3 : Cal.cD t = Cal.dy (t / 86400) := rfl
    rw [e1, e2, e3] at k1 k3
    obtain ⟨y, hy⟩ : ∃ x, Cal.yr (t / 86400) = x := ⟨_, rfl⟩
    obtain ⟨m, hm⟩ : ∃ x, Cal.mo (t / 86400) = x := ⟨_, rfl⟩
    obtain ⟨d, hdd⟩ : ∃ x, Cal.dy (t / 86400) = x := ⟨_, rfl⟩
    obtain ⟨hh, hhh⟩ : ∃ x, Cal.cH t = x := ⟨_, rfl⟩
    obtain ⟨i, hi⟩ : ∃ x, Cal.cI t = x := ⟨_, rfl⟩
    obtain ⟨s, hs⟩ : ∃ x, Cal.cS t = x := ⟨_, rfl⟩
    obtain ⟨X, hX⟩ : ∃ x, tx t = x := ⟨_, rfl⟩
    rw [hy, hm, hdd, hhh, hi, hs] at k1 k3
    rw [hy, hm, hdd] at k5 k6
    rw [hX] at k2 k4 hz
    have hgi : goInt X.size = .int .i64 19 := by rw [hz]; simp [goInt]
    unfold Cal.timeOk at h
    obtain ⟨h1, h2⟩ := h
    clear g hd e1 e2 e3 hy hm hdd hhh hi hs hX hv
    go_enter Tryd.func6, Tryd.ntmps6
    go_wp2_with (first
      | (go_at_call 18; refine (k1 _).mono ?_; rintro e w1 ⟨rfl, hq1⟩; have ra := Row.new w1 y m d hh i s 28)
      | (go_at_call 22; refine (k2 _ (Tab.later hT (by repeat (first | exact Q.refl _ | assumption | refine Q.alloc ?_ _ | refine Q.drew ?_ | refine Q.drewN ?_ _ | refine Q.setCell ?_ (Q.size (by assumption)) _ | refine Q.trans ?_ (by assumption))))).mono ?_; rintro e w2 ⟨rfl, hq2⟩; have ra2 := ra.later hq2; obtain ⟨x0, x1, x2, x3, x4, x5, xx6⟩ := ra2.six)
      | (go_at_call 26; refine (k3 _).mono ?_; rintro e w3 ⟨rfl, hq3⟩; have ra3 := ra2.later hq3)
      | (go_at_call 24; refine (k4 _).mono ?_; rintro e w4 ⟨rfl, hq4⟩; have ra4 := ra3.later hq4; obtain ⟨y0, y1, y2, y3, y4, y5, y6⟩ := ra4.six)
      | (go_at_call 15; refine (k5 _).mono ?_; rintro e w5 ⟨rfl, rfl⟩)
      | (go_at_call 27; refine (k6 _).mono ?_; rintro e w5 ⟨rfl, rfl⟩)
      | (go_at_call 17; refine (works_any _ (Tab.later hT (by repeat (first | exact Q.refl _ | assumption | refine Q.alloc ?_ _ | refine Q.drew ?_ | refine Q.drewN ?_ _ | refine Q.setCell ?_ (Q.size (by assumption)) _ | refine Q.trans ?_ (by assumption))))).mono ?_; rintro e w9 ⟨rfl, hq9⟩))
    go_ret
    exact ⟨rfl, by repeat (first | exact Q.refl _ | assumption | refine Q.alloc ?_ _ | refine Q.drew ?_ | refine Q.drewN ?_ _ | refine Q.setCell ?_ (Q.size (by assumption)) _ | refine Q.trans ?_ (by assumption))⟩
  · have k1 := fun w2 => of_bad t h w2
    have k2 := fun w2 => text_bad t h w2
    have he := fun w2 => eql6 0 0 0 0 0 0 0 0 0 0 0 0 w2
    simp only [same6_refl] at he
    unfold Cal.timeOk at h
    by_cases h1 : t < 0
    all_goals
      first
        | (have h2 : t < 0 := h1; clear h h1)
        | (have h2 : 253402300799 < t := by omega
           have h3 : 0 ≤ t := by omega
           clear h h1)
      go_enter Tryd.func6, Tryd.ntmps6
      go_wp2_with (first
        | (go_at_call 18; refine (k1 _).mono ?_; rintro e w1 ⟨rfl, hq1⟩; have ra := Row.new w1 0 0 0 0 0 0 28)
        | (go_at_call 22; refine (k2 _).mono ?_; rintro e w2 ⟨rfl, hq2⟩; have ra2 := ra.later hq2; obtain ⟨x0, x1, x2, x3, x4, x5, x6⟩ := ra2.six)
        | (go_at_call 17; refine (works_any _ (Tab.later hT (by repeat (first | exact Q.refl _ | assumption | refine Q.alloc ?_ _ | refine Q.drew ?_ | refine Q.drewN ?_ _ | refine Q.setCell ?_ (Q.size (by assumption)) _ | refine Q.trans ?_ (by assumption))))).mono ?_; rintro e w9 ⟨rfl, hq9⟩))
      go_ret
      exact ⟨rfl, by repeat (first | exact Q.refl _ | assumption | refine Q.alloc ?_ _ | refine Q.drew ?_ | refine Q.drewN ?_ _ | refine Q.setCell ?_ (Q.size (by assumption)) _ | refine Q.trans ?_ (by assumption))⟩
end Go.Proofs.YtdhlgmclogdplaaDoor
