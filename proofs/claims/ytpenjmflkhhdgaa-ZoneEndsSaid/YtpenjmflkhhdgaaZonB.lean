/- The contracts of zone's and the document's Local, Midnight and Week. -/
import Derived.Test.YtpenjmflkhhdgaaZonA
namespace Zn
def midV (t z : Int) : Int := if shOk t z then (if t - (t + 60 * z) % 86400 < 0 then 0 else t - (t + 60 * z) % 86400) else 0
def midE (t z : Int) : Int := if shOk t z then (if t - (t + 60 * z) % 86400 < 0 then 14 else 0) else shE t z
end Zn
namespace Go.Proofs.Ytpenjmflkhhdgaa
open Go.RowKit
set_option linter.unusedVariables false
theorem local_ok (t z : Int) (h : Zn.shOk t z) (w : World) :
    Calls Try.prog 20 #[.int .i64 t, .int .i64 z] w fun e w' => e = .returned (.tuple #[.agg #[.int .i64 (Cal.cY (t + 60 * z)), .int .i64 (Cal.cM (t + 60 * z)), .int .i64 (Cal.cD (t + 60 * z)), .int .i64 (Cal.cH (t + 60 * z)), .int .i64 (Cal.cI (t + 60 * z)), .int .i64 (Cal.cS (t + 60 * z))], .int .i64 0]) ∧ Q w w' := by
  have hok := h.2.2
  go_enter Try.func20, Try.ntmps20
  go_wp2_with (first
    | (go_at_call 35; refine (shown_ok _ _ h _).mono ?_; rintro e w1 ⟨rfl, rfl⟩)
    | (go_at_call 27; refine (of_good _ hok _).mono ?_; rintro e w2 ⟨rfl, hq2⟩; obtain ⟨k0, k1, k2, k3, k4, k5, kz⟩ := box6 hq2; have f0 := box_free hq2 0; have f1 := box_free hq2 1; have f2 := box_free hq2 2; have f3 := box_free hq2 3; have f4 := box_free hq2 4; have f5 := box_free hq2 5))
  refine bodyPost_ret (v := .tuple #[.agg #[.int .i64 (Cal.cY (t + 60 * z)), .int .i64 (Cal.cM (t + 60 * z)), .int .i64 (Cal.cD (t + 60 * z)), .int .i64 (Cal.cH (t + 60 * z)), .int .i64 (Cal.cI (t + 60 * z)), .int .i64 (Cal.cS (t + 60 * z))], .int .i64 0]) (by simp [results, Try.results20, go_sem, k0, k1, k2, k3, k4, k5]) rfl ⟨rfl, ?_⟩
  exact (((((((Q.refl w).alloc _).trans hq2).setCell (Nat.le_refl _) _).setCell (Nat.le_refl _) _).setCell (Nat.le_refl _) _).setCell (Nat.le_refl _) _).setCell (Nat.le_refl _) _ |>.setCell (Nat.le_refl _) _
theorem local_err (t z : Int) (h : ¬ Zn.shOk t z) (w : World) :
    Calls Try.prog 20 #[.int .i64 t, .int .i64 z] w fun e w' => e = .returned (.tuple #[.agg #[.int .i64 0, .int .i64 0, .int .i64 0, .int .i64 0, .int .i64 0, .int .i64 0], .int .i64 (Zn.shE t z)]) ∧ Q w w' := by
  have hne := bne_t (Zn.shE_ne h)
  go_enter Try.func20, Try.ntmps20
  go_wp2_with (go_at_call 35; refine (shown_err _ _ h _).mono ?_; rintro e w1 ⟨rfl, rfl⟩)
  exact bodyPost_ret (v := .tuple #[.agg #[.int .i64 0, .int .i64 0, .int .i64 0, .int .i64 0, .int .i64 0, .int .i64 0], .int .i64 (Zn.shE t z)]) (by simp [results, Try.results20, go_sem]) rfl ⟨rfl, (Q.refl _).alloc _⟩
theorem rlocal_ok (t z : Int) (h : Zn.shOk t z) (w : World) :
    Calls Try.prog 21 #[.int .i64 t, .int .i64 z] w fun e w' => e = .returned (.tuple #[.agg #[.int .i64 (Cal.cY (t + 60 * z)), .int .i64 (Cal.cM (t + 60 * z)), .int .i64 (Cal.cD (t + 60 * z)), .int .i64 (Cal.cH (t + 60 * z)), .int .i64 (Cal.cI (t + 60 * z)), .int .i64 (Cal.cS (t + 60 * z))], .int .i64 0]) ∧ Q w w' := by
  have hok := h.2.2
  go_enter Try.func21, Try.ntmps21
  go_wp2_with (first
    | (go_at_call 36; refine (rshown_ok _ _ h _).mono ?_; rintro e w1 ⟨rfl, rfl⟩)
    | (go_at_call 37; refine (rof_good _ hok _).mono ?_; rintro e w2 ⟨rfl, hq2⟩; obtain ⟨k0, k1, k2, k3, k4, k5, kz⟩ := box6 hq2; have f0 := box_free hq2 0; have f1 := box_free hq2 1; have f2 := box_free hq2 2; have f3 := box_free hq2 3; have f4 := box_free hq2 4; have f5 := box_free hq2 5))
  refine bodyPost_ret (v := .tuple #[.agg #[.int .i64 (Cal.cY (t + 60 * z)), .int .i64 (Cal.cM (t + 60 * z)), .int .i64 (Cal.cD (t + 60 * z)), .int .i64 (Cal.cH (t + 60 * z)), .int .i64 (Cal.cI (t + 60 * z)), .int .i64 (Cal.cS (t + 60 * z))], .int .i64 0]) (by simp [results, Try.results21, go_sem, k0, k1, k2, k3, k4, k5]) rfl ⟨rfl, ?_⟩
  exact (((((((Q.refl w).alloc _).trans hq2).setCell (Nat.le_refl _) _).setCell (Nat.le_refl _) _).setCell (Nat.le_refl _) _).setCell (Nat.le_refl _) _).setCell (Nat.le_refl _) _ |>.setCell (Nat.le_refl _) _
theorem rlocal_err (t z : Int) (h : ¬ Zn.shOk t z) (w : World) :
    Calls Try.prog 21 #[.int .i64 t, .int .i64 z] w fun e w' => e = .returned (.tuple #[.agg #[.int .i64 0, .int .i64 0, .int .i64 0, .int .i64 0, .int .i64 0, .int .i64 0], .int .i64 (Zn.shE t z)]) ∧ Q w w' := by
  have hne := bne_t (Zn.shE_ne h)
  go_enter Try.func21, Try.ntmps21
  go_wp2_with (go_at_call 36; refine (rshown_err _ _ h _).mono ?_; rintro e w1 ⟨rfl, rfl⟩)
  exact bodyPost_ret (v := .tuple #[.agg #[.int .i64 0, .int .i64 0, .int .i64 0, .int .i64 0, .int .i64 0, .int .i64 0], .int .i64 (Zn.shE t z)]) (by simp [results, Try.results21, go_sem]) rfl ⟨rfl, (Q.refl _).alloc _⟩
theorem mid_ok (t z : Int) (h : Zn.shOk t z) (w : World) :
    Calls Try.prog 22 #[.int .i64 t, .int .i64 z] w fun e w' => e = .returned (.tuple #[.int .i64 (Zn.midV t z), .int .i64 (Zn.midE t z)]) ∧ w = w' := by
  unfold Zn.midV Zn.midE
  rw [if_pos h, if_pos h]
  have h1 := h.2.1
  have h2 := h.2.2
  unfold Cal.timeOk at h1 h2
  by_cases hm : t - (t + 60 * z) % 86400 < 0
  · rw [if_pos hm, if_pos hm]
    go_enter Try.func22, Try.ntmps22
    go_wp2_with (go_at_call 35; refine (shown_ok _ _ h _).mono ?_; rintro e w1 ⟨rfl, rfl⟩)
    go_ret2
    exact ⟨rfl, rfl⟩
  · rw [if_neg hm, if_neg hm]
    go_enter Try.func22, Try.ntmps22
    go_wp2_with (go_at_call 35; refine (shown_ok _ _ h _).mono ?_; rintro e w1 ⟨rfl, rfl⟩)
    go_ret2
    exact ⟨rfl, rfl⟩
theorem mid_err (t z : Int) (h : ¬ Zn.shOk t z) (w : World) :
    Calls Try.prog 22 #[.int .i64 t, .int .i64 z] w fun e w' => e = .returned (.tuple #[.int .i64 (Zn.midV t z), .int .i64 (Zn.midE t z)]) ∧ w = w' := by
  unfold Zn.midV Zn.midE
  rw [if_neg h, if_neg h]
  have hne := bne_t (Zn.shE_ne h)
  go_enter Try.func22, Try.ntmps22
  go_wp2_with (go_at_call 35; refine (shown_err _ _ h _).mono ?_; rintro e w1 ⟨rfl, rfl⟩)
  go_ret2
  exact ⟨rfl, rfl⟩
theorem mid_any (t z : Int) (w : World) :
    Calls Try.prog 22 #[.int .i64 t, .int .i64 z] w fun e w' => e = .returned (.tuple #[.int .i64 (Zn.midV t z), .int .i64 (Zn.midE t z)]) ∧ w = w' := by
  by_cases h : Zn.shOk t z
  · exact mid_ok t z h w
  · exact mid_err t z h w
theorem rmid_ok (t z : Int) (h : Zn.shOk t z) (w : World) :
    Calls Try.prog 23 #[.int .i64 t, .int .i64 z] w fun e w' => e = .returned (.tuple #[.int .i64 (Zn.midV t z), .int .i64 (Zn.midE t z)]) ∧ w = w' := by
  unfold Zn.midV Zn.midE
  rw [if_pos h, if_pos h]
  have h1 := h.2.1
  have h2 := h.2.2
  unfold Cal.timeOk at h1 h2
  by_cases hm : t - (t + 60 * z) % 86400 < 0
  · rw [if_pos hm, if_pos hm]
    go_enter Try.func23, Try.ntmps23
    go_wp2_with (go_at_call 36; refine (rshown_ok _ _ h _).mono ?_; rintro e w1 ⟨rfl, rfl⟩)
    go_ret2
    exact ⟨rfl, rfl⟩
  · rw [if_neg hm, if_neg hm]
    go_enter Try.func23, Try.ntmps23
    go_wp2_with (go_at_call 36; refine (rshown_ok _ _ h _).mono ?_; rintro e w1 ⟨rfl, rfl⟩)
    go_ret2
    exact ⟨rfl, rfl⟩
theorem rmid_err (t z : Int) (h : ¬ Zn.shOk t z) (w : World) :
    Calls Try.prog 23 #[.int .i64 t, .int .i64 z] w fun e w' => e = .returned (.tuple #[.int .i64 (Zn.midV t z), .int .i64 (Zn.midE t z)]) ∧ w = w' := by
  unfold Zn.midV Zn.midE
  rw [if_neg h, if_neg h]
  have hne := bne_t (Zn.shE_ne h)
  go_enter Try.func23, Try.ntmps23
  go_wp2_with (go_at_call 36; refine (rshown_err _ _ h _).mono ?_; rintro e w1 ⟨rfl, rfl⟩)
  go_ret2
  exact ⟨rfl, rfl⟩
theorem rmid_any (t z : Int) (w : World) :
    Calls Try.prog 23 #[.int .i64 t, .int .i64 z] w fun e w' => e = .returned (.tuple #[.int .i64 (Zn.midV t z), .int .i64 (Zn.midE t z)]) ∧ w = w' := by
  by_cases h : Zn.shOk t z
  · exact rmid_ok t z h w
  · exact rmid_err t z h w
theorem zweek_ok (t z : Int) (h : Zn.shOk t z) (w : World) :
    Calls Try.prog 24 #[.int .i64 t, .int .i64 z] w fun e w' => e = .returned (.tuple #[.int .i64 (((t + 60 * z) / 86400 + 4) % 7), .int .i64 0]) ∧ w = w' := by
  have hok := h.2.2
  go_enter Try.func24, Try.ntmps24
  go_wp2_with (first
    | (go_at_call 35; refine (shown_ok _ _ h _).mono ?_; rintro e w1 ⟨rfl, rfl⟩)
    | (go_at_call 28; refine (week_good _ hok _).mono ?_; rintro e w1 ⟨rfl, rfl⟩))
  go_ret2
  exact ⟨rfl, rfl⟩
theorem zweek_err (t z : Int) (h : ¬ Zn.shOk t z) (w : World) :
    Calls Try.prog 24 #[.int .i64 t, .int .i64 z] w fun e w' => e = .returned (.tuple #[.int .i64 0, .int .i64 (Zn.shE t z)]) ∧ w = w' := by
  have hne := bne_t (Zn.shE_ne h)
  go_enter Try.func24, Try.ntmps24
  go_wp2_with (go_at_call 35; refine (shown_err _ _ h _).mono ?_; rintro e w1 ⟨rfl, rfl⟩)
  go_ret2
  exact ⟨rfl, rfl⟩
theorem rzweek_ok (t z : Int) (h : Zn.shOk t z) (w : World) :
    Calls Try.prog 25 #[.int .i64 t, .int .i64 z] w fun e w' => e = .returned (.tuple #[.int .i64 (((t + 60 * z) / 86400 + 4) % 7), .int .i64 0]) ∧ w = w' := by
  have hok := h.2.2
  go_enter Try.func25, Try.ntmps25
  go_wp2_with (first
    | (go_at_call 36; refine (rshown_ok _ _ h _).mono ?_; rintro e w1 ⟨rfl, rfl⟩)
    | (go_at_call 38; refine (rweek_good _ hok _).mono ?_; rintro e w1 ⟨rfl, rfl⟩))
  go_ret2
  exact ⟨rfl, rfl⟩
theorem rzweek_err (t z : Int) (h : ¬ Zn.shOk t z) (w : World) :
    Calls Try.prog 25 #[.int .i64 t, .int .i64 z] w fun e w' => e = .returned (.tuple #[.int .i64 0, .int .i64 (Zn.shE t z)]) ∧ w = w' := by
  have hne := bne_t (Zn.shE_ne h)
  go_enter Try.func25, Try.ntmps25
  go_wp2_with (go_at_call 36; refine (rshown_err _ _ h _).mono ?_; rintro e w1 ⟨rfl, rfl⟩)
  go_ret2
  exact ⟨rfl, rfl⟩
end Go.Proofs.Ytpenjmflkhhdgaa
