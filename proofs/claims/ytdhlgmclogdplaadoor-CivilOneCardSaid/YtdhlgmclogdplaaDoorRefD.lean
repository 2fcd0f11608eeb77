/- The contract of the document's Time. -/
import Derived.Test.YtdhlgmclogdplaaDoorRefC
namespace Go.Proofs.YtdhlgmclogdplaaDoor
open Go.RowKit
set_option linter.unusedVariables false
theorem rtime_good (y m d h i s : Int) (g : Cal.Good y m d h i s) (w : World) :
    Calls Tryd.prog 33 #[.agg #[.int .i64 y, .int .i64 m, .int .i64 d, .int .i64 h, .int .i64 i, .int .i64 s]] w fun e w' => e = .returned (.tuple #[.int .i64 (Cal.secs y m d h i s), .int .i64 0]) ∧ Q w w' := by
  obtain ⟨v, h1, h2, h3, h4, h5, h6⟩ := g
  have hnr := Cal.num_range v
  unfold Cal.secs
  go_enter Tryd.func33, Tryd.ntmps33
  go_wp2_with (first
    | (go_at_call 30; refine (rdays_good _ _ _ v _).mono ?_; rintro e w2 ⟨rfl, hq2⟩; obtain ⟨k0, k1, k2, k3, k4, k5, kz⟩ := box6 hq2))
  go_ret2
  exact ⟨rfl, Q.trans ((Q.refl w).alloc _) hq2⟩
set_option maxHeartbeats 2000000 in
theorem rtime_bad (y m d h i s : Int) (g : ¬ Cal.Good y m d h i s) (w : World) :
    Calls Tryd.prog 33 #[.agg #[.int .i64 y, .int .i64 m, .int .i64 d, .int .i64 h, .int .i64 i, .int .i64 s]] w fun e w' => e = .returned (.tuple #[.int .i64 0, .int .i64 2]) ∧ Q w w' := by
  by_cases v : Cal.Valid y m d
  · by_cases t0 : h < 0
    · clear g
      go_enter Tryd.func33, Tryd.ntmps33
      go_wp2_with (first
        | (go_at_call 30; refine (rdays_good _ _ _ v _).mono ?_; rintro e w2 ⟨rfl, hq2⟩; obtain ⟨k0, k1, k2, k3, k4, k5, kz⟩ := box6 hq2))
      go_ret2
      exact ⟨rfl, Q.trans ((Q.refl w).alloc _) hq2⟩
    by_cases t1 : 23 < h
    · clear g
      go_enter Tryd.func33, Tryd.ntmps33
      go_wp2_with (first
        | (go_at_call 30; refine (rdays_good _ _ _ v _).mono ?_; rintro e w2 ⟨rfl, hq2⟩; obtain ⟨k0, k1, k2, k3, k4, k5, kz⟩ := box6 hq2))
      go_ret2
      exact ⟨rfl, Q.trans ((Q.refl w).alloc _) hq2⟩
    by_cases t2 : i < 0
    · clear g
      go_enter Tryd.func33, Tryd.ntmps33
      go_wp2_with (first
        | (go_at_call 30; refine (rdays_good _ _ _ v _).mono ?_; rintro e w2 ⟨rfl, hq2⟩; obtain ⟨k0, k1, k2, k3, k4, k5, kz⟩ := box6 hq2))
      go_ret2
      exact ⟨rfl, Q.trans ((Q.refl w).alloc _) hq2⟩
    by_cases t3 : 59 < i
    · clear g
      go_enter Tryd.func33, Tryd.ntmps33
      go_wp2_with (first
        | (go_at_call 30; refine (rdays_good _ _ _ v _).mono ?_; rintro e w2 ⟨rfl, hq2⟩; obtain ⟨k0, k1, k2, k3, k4, k5, kz⟩ := box6 hq2))
      go_ret2
      exact ⟨rfl, Q.trans ((Q.refl w).alloc _) hq2⟩
    by_cases t4 : s < 0
    · clear g
      go_enter Tryd.func33, Tryd.ntmps33
      go_wp2_with (first
        | (go_at_call 30; refine (rdays_good _ _ _ v _).mono ?_; rintro e w2 ⟨rfl, hq2⟩; obtain ⟨k0, k1, k2, k3, k4, k5, kz⟩ := box6 hq2))
      go_ret2
      exact ⟨rfl, Q.trans ((Q.refl w).alloc _) hq2⟩
    have t5 : 59 < s := by
      by_cases hc : s ≤ 59
      · exact absurd ⟨v, by omega, by omega, by omega, by omega, by omega, hc⟩ g
      · omega
    clear g
    go_enter Tryd.func33, Tryd.ntmps33
    go_wp2_with (first
      | (go_at_call 30; refine (rdays_good _ _ _ v _).mono ?_; rintro e w2 ⟨rfl, hq2⟩; obtain ⟨k0, k1, k2, k3, k4, k5, kz⟩ := box6 hq2))
    go_ret2
    exact ⟨rfl, Q.trans ((Q.refl w).alloc _) hq2⟩
  · clear g
    go_enter Tryd.func33, Tryd.ntmps33
    go_wp2_with (first
      | (go_at_call 30; refine (rdays_bad _ _ _ v _).mono ?_; rintro e w2 ⟨rfl, hq2⟩; obtain ⟨k0, k1, k2, k3, k4, k5, kz⟩ := box6 hq2))
    go_ret2
    exact ⟨rfl, Q.trans ((Q.refl w).alloc _) hq2⟩
end Go.Proofs.YtdhlgmclogdplaaDoor
