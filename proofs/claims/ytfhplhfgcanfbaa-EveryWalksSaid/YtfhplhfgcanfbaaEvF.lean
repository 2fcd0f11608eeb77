/- The contracts of the document's functions (wakemanref10) but for Meet. -/
import Derived.Test.YtfhplhfgcanfbaaEvB
namespace Go.Proofs.Ytfhplhfgcanfbaa
open Go.RowKit
set_option linter.unusedVariables false
set_option linter.unusedSimpArgs false
theorem rcheck_ok (s p c : Int) (h : Ev.Ok s p c) (w : World) :
    Calls Try.prog 33 #[.agg #[.int .i64 s, .int .i64 p, .int .i64 c]] w fun e w' => e = .returned (.int .i64 0) ∧ Q w w' := by
  unfold Ev.Ok at h
  obtain ⟨h1, h2, h3, h4, h5, h6⟩ := h
  go_enter Try.func33, Try.ntmps33
  go_wp2
  go_ret
  exact ⟨rfl, (Q.refl _).alloc _⟩
theorem rcheck_bad (s p c : Int) (h : ¬ Ev.Ok s p c) (w : World) :
    Calls Try.prog 33 #[.agg #[.int .i64 s, .int .i64 p, .int .i64 c]] w fun e w' => e = .returned (.int .i64 16) ∧ Q w w' := by
  unfold Ev.Ok at h
  by_cases h1 : s < 0
  · clear h
    go_enter Try.func33, Try.ntmps33
    go_wp2
    go_ret
    exact ⟨rfl, (Q.refl _).alloc _⟩
  by_cases h2 : 253402300799 < s
  · clear h
    go_enter Try.func33, Try.ntmps33
    go_wp2
    go_ret
    exact ⟨rfl, (Q.refl _).alloc _⟩
  by_cases h3 : p < 1
  · clear h
    go_enter Try.func33, Try.ntmps33
    go_wp2
    go_ret
    exact ⟨rfl, (Q.refl _).alloc _⟩
  by_cases h4 : 68719476736 < p
  · clear h
    go_enter Try.func33, Try.ntmps33
    go_wp2
    go_ret
    exact ⟨rfl, (Q.refl _).alloc _⟩
  by_cases h5 : c < 0
  · clear h
    go_enter Try.func33, Try.ntmps33
    go_wp2
    go_ret
    exact ⟨rfl, (Q.refl _).alloc _⟩
  · have h6 : 1000000 < c := by omega
    clear h
    go_enter Try.func33, Try.ntmps33
    go_wp2
    go_ret
    exact ⟨rfl, (Q.refl _).alloc _⟩
theorem rnum_any (s p c : Int) (h : Ev.Ok s p c) (w : World) :
    Calls Try.prog 46 #[.agg #[.int .i64 s, .int .i64 p, .int .i64 c]] w fun e w' => e = .returned (.int .i64 (Ev.num s p c)) ∧ Q w w' := by
  obtain ⟨h1, h2, h3, h4, h5, h6⟩ := h
  have hd : 0 ≤ (253402300799 - s) / p := Int.ediv_nonneg (by omega) (by omega)
  have hd2 : (253402300799 - s) / p ≤ 253402300799 - s := Int.ediv_le_self _ (by omega)
  unfold Ev.num
  rcases (show (0 < c ∧ c < 1 + (253402300799 - s) / p) ∨ (0 < c ∧ 1 + (253402300799 - s) / p ≤ c) ∨ c = 0 by omega) with ⟨hc, hl⟩ | ⟨hc, hl⟩ | rfl
  · rw [if_pos ⟨hc, hl⟩]
    go_enter Try.func46, Try.ntmps46
    go_wp2
    go_ret
    exact ⟨rfl, by repeat (first | exact Q.refl _ | assumption | refine Q.alloc ?_ _ | refine Q.drew ?_ | refine Q.drewN ?_ _ | refine Q.trans ?_ (by assumption))⟩
  · rw [if_neg (by omega)]
    go_enter Try.func46, Try.ntmps46
    go_wp2
    go_ret
    exact ⟨ret_int (by omega), by repeat (first | exact Q.refl _ | assumption | refine Q.alloc ?_ _ | refine Q.drew ?_ | refine Q.drewN ?_ _ | refine Q.trans ?_ (by assumption))⟩
  · rw [if_neg (by omega)]
    go_enter Try.func46, Try.ntmps46
    go_wp2
    go_ret
    exact ⟨ret_int (by omega), by repeat (first | exact Q.refl _ | assumption | refine Q.alloc ?_ _ | refine Q.drew ?_ | refine Q.drewN ?_ _ | refine Q.trans ?_ (by assumption))⟩
theorem rfirst_bad (s p c t : Int) (h : ¬ Ev.Ok s p c) (w : World) :
    Calls Try.prog 36 #[.agg #[.int .i64 s, .int .i64 p, .int .i64 c], .int .i64 t] w fun e w' => e = .returned (.int .i64 16) ∧ Q w w' := by
  have k1 := fun w2 => rcheck_bad s p c h w2
  clear h
  go_enter Try.func36, Try.ntmps36
  go_wp2_with (go_at_call 33; refine (k1 _).mono ?_; rintro e w1 ⟨rfl, hq1⟩)
  go_ret
  exact ⟨rfl, by repeat (first | exact Q.refl _ | assumption | refine Q.alloc ?_ _ | refine Q.drew ?_ | refine Q.drewN ?_ _ | refine Q.trans ?_ (by assumption))⟩
theorem rfirst_time (s p c t : Int) (h : Ev.Ok s p c) (ht : ¬ Ev.TOk t) (w : World) :
    Calls Try.prog 36 #[.agg #[.int .i64 s, .int .i64 p, .int .i64 c], .int .i64 t] w fun e w' => e = .returned (.int .i64 14) ∧ Q w w' := by
  have k1 := fun w2 => rcheck_ok s p c h w2
  clear h
  unfold Ev.TOk at ht
  rcases (show t < 0 ∨ 253402300799 < t by omega) with h | h
  all_goals
    clear ht
    go_enter Try.func36, Try.ntmps36
    go_wp2_with (go_at_call 33; refine (k1 _).mono ?_; rintro e w1 ⟨rfl, hq1⟩)
    go_ret
    exact ⟨rfl, by repeat (first | exact Q.refl _ | assumption | refine Q.alloc ?_ _ | refine Q.drew ?_ | refine Q.drewN ?_ _ | refine Q.trans ?_ (by assumption))⟩
theorem rfirst_ok (s p c t : Int) (h : Ev.Ok s p c) (ht : Ev.TOk t) (w : World) :
    Calls Try.prog 36 #[.agg #[.int .i64 s, .int .i64 p, .int .i64 c], .int .i64 t] w fun e w' => e = .returned (.int .i64 0) ∧ Q w w' := by
  have k1 := fun w2 => rcheck_ok s p c h w2
  clear h
  obtain ⟨t1, t2⟩ := ht
  go_enter Try.func36, Try.ntmps36
  go_wp2_with (go_at_call 33; refine (k1 _).mono ?_; rintro e w1 ⟨rfl, hq1⟩)
  go_ret
  exact ⟨rfl, by repeat (first | exact Q.refl _ | assumption | refine Q.alloc ?_ _ | refine Q.drew ?_ | refine Q.drewN ?_ _ | refine Q.trans ?_ (by assumption))⟩
theorem upto_eq {s p c : Int} (t : Int) : Ev.bef s p c (t + 1) = if t < s then 0 else if Ev.num s p c < (t - s) / p + 1 then Ev.num s p c else (t - s) / p + 1 := by
  unfold Ev.bef
  rw [show t + 1 - s - 1 = t - s by omega]
  by_cases h : t < s
  · rw [if_pos h, if_pos (by omega)]
  · rw [if_neg h, if_neg (by omega)]
set_option maxHeartbeats 800000 in
theorem rupto_any (s p c t : Int) (h : Ev.Ok s p c) (ht : -1000000000000 ≤ t ∧ t ≤ 1000000000000) (w : World) :
    Calls Try.prog 37 #[.agg #[.int .i64 s, .int .i64 p, .int .i64 c], .int .i64 t] w fun e w' => e = .returned (.int .i64 (Ev.bef s p c (t + 1))) ∧ Q w w' := by
  rw [upto_eq]
  have k1 := fun w2 => rnum_any s p c h w2
  have hnp := Ev.num_pos h
  have hnm := Ev.num_max h
  obtain ⟨n, hn⟩ : ∃ n, Ev.num s p c = n := ⟨_, rfl⟩
  rw [hn] at k1 hnp hnm ⊢
  clear hn
  obtain ⟨h1, h2, h3, h4, h5, h6⟩ := h
  by_cases hs : t < s
  · rw [if_pos hs]
    go_enter Try.func37, Try.ntmps37
    go_wp2_with (go_at_call 46; refine (k1 _).mono ?_; rintro e w1 ⟨rfl, hq1⟩; obtain ⟨x1, x2, x3⟩ := qcell hq1)
    go_ret
    exact ⟨rfl, by repeat (first | exact Q.refl _ | assumption | refine Q.alloc ?_ _ | refine Q.drew ?_ | refine Q.drewN ?_ _ | refine Q.trans ?_ (by assumption))⟩
  · rw [if_neg hs]
    have hd : 0 ≤ (t - s) / p := Int.ediv_nonneg (by omega) (by omega)
    have hd2 : (t - s) / p ≤ t - s := Int.ediv_le_self _ (by omega)
    by_cases hl : n < (t - s) / p + 1
    · rw [if_pos hl]
      go_enter Try.func37, Try.ntmps37
      go_wp2_with (go_at_call 46; refine (k1 _).mono ?_; rintro e w1 ⟨rfl, hq1⟩; obtain ⟨x1, x2, x3⟩ := qcell hq1)
      go_ret
      exact ⟨rfl, by repeat (first | exact Q.refl _ | assumption | refine Q.alloc ?_ _ | refine Q.drew ?_ | refine Q.drewN ?_ _ | refine Q.trans ?_ (by assumption))⟩
    · rw [if_neg hl]
      go_enter Try.func37, Try.ntmps37
      go_wp2_with (go_at_call 46; refine (k1 _).mono ?_; rintro e w1 ⟨rfl, hq1⟩; obtain ⟨x1, x2, x3⟩ := qcell hq1)
      go_ret
      exact ⟨rfl, by repeat (first | exact Q.refl _ | assumption | refine Q.alloc ?_ _ | refine Q.drew ?_ | refine Q.drewN ?_ _ | refine Q.trans ?_ (by assumption))⟩
end Go.Proofs.Ytfhplhfgcanfbaa
