/- The walks of the laws CivilDays, CivilSeconds, CivilWeeks, CivilCycles. -/
import Derived.Test.YtdhlgmclogdplaaDoorTxtM
namespace Go.Proofs.YtdhlgmclogdplaaDoor
open Go.RowKit
set_option linter.unusedVariables false
set_option linter.unusedSimpArgs false
theorem civilDays_walk (y m d : Int) (w0 : (Lit.int .i64 y).wf = true) (w1 : (Lit.int .i64 m).wf = true) (w2 : (Lit.int .i64 d).wf = true) (w : World) (hT : Tab w) :
    Calls Tryd.prog 10 #[.int .i64 y, .int .i64 m, .int .i64 d] w fun e w' => e = .returned (.bool true) ∧ Q w w' := by
  clear w0 w1 w2
  go_enter Tryd.func10, Tryd.ntmps10
  go_wp2_with (first
    | (go_at_call 28; refine (len_any _ _ _).mono ?_; rintro e w1 ⟨rfl, rfl⟩)
    | (go_at_call 29; refine (rlen_any _ _ _).mono ?_; rintro e w2 ⟨rfl, hq2⟩)
    | (go_at_call 27; refine (days_any _ _ _ _).mono ?_; rintro e w3 ⟨rfl, rfl⟩)
    | (go_at_call 30; refine (rdays_any _ _ _ _).mono ?_; rintro e w4 ⟨rfl, hq4⟩)
    | (go_at_call 31; refine (leap_any _ _).mono ?_; rintro e w5 ⟨rfl, rfl⟩)
    | (go_at_call 32; refine (rleap_any _ _).mono ?_; rintro e w5 ⟨rfl, rfl⟩)
    | (go_at_call 17; refine (works_any _ (Tab.later hT (by repeat (first | exact Q.refl _ | assumption | refine Q.alloc ?_ _ | refine Q.drew ?_ | refine Q.drewN ?_ _ | refine Q.setCell ?_ (Q.size (by assumption)) _ | refine Q.trans ?_ (by assumption))))).mono ?_; rintro e w9 ⟨rfl, hq9⟩))
  go_ret
  exact ⟨rfl, by repeat (first | exact Q.refl _ | assumption | refine Q.alloc ?_ _ | refine Q.drew ?_ | refine Q.drewN ?_ _ | refine Q.setCell ?_ (Q.size (by assumption)) _ | refine Q.trans ?_ (by assumption))⟩
theorem keep2 {P : Program} {f : Nat} {args : Array Value} {l0 l1 : List Int} {B0 B1 : Nat} {v : Ending} {w2 : World} (k : Calls P f args w2 fun e w' => e = v ∧ Q w2 w') (h0 : Row B0 l0 w2) (h1 : Row B1 l1 w2) :
    Calls P f args w2 fun e w' => e = v ∧ Q w2 w' ∧ Row B0 l0 w' ∧ Row B1 l1 w' :=
  k.mono fun e w' ⟨a, q⟩ => ⟨a, q, h0.later q, h1.later q⟩
set_option maxHeartbeats 1000000 in
theorem civilSeconds_walk (a0 a1 a2 a3 a4 a5 b0 b1 b2 b3 b4 b5 : Int) (u0 : (Lit.int .i64 a0).wf = true) (u1 : (Lit.int .i64 a1).wf = true) (u2 : (Lit.int .i64 a2).wf = true) (u3 : (Lit.int .i64 a3).wf = true) (u4 : (Lit.int .i64 a4).wf = true) (u5 : (Lit.int .i64 a5).wf = true) (v0 : (Lit.int .i64 b0).wf = true) (v1 : (Lit.int .i64 b1).wf = true) (v2 : (Lit.int .i64 b2).wf = true) (v3 : (Lit.int .i64 b3).wf = true) (v4 : (Lit.int .i64 b4).wf = true) (v5 : (Lit.int .i64 b5).wf = true) (w : World) (hT : Tab w) :
    Calls Tryd.prog 12 #[.agg #[.int .i64 a0, .int .i64 a1, .int .i64 a2, .int .i64 a3, .int .i64 a4, .int .i64 a5], .agg #[.int .i64 b0, .int .i64 b1, .int .i64 b2, .int .i64 b3, .int .i64 b4, .int .i64 b5]] w fun e w' => e = .returned (.bool true) ∧ Q w w' := by
  have r0 : Row w.heap.size [a0, a1, a2, a3, a4, a5] ((w.alloc (.cells #[.int .i64 a0, .int .i64 a1, .int .i64 a2, .int .i64 a3, .int .i64 a4, .int .i64 a5] 28)).alloc (.cells #[.int .i64 b0, .int .i64 b1, .int .i64 b2, .int .i64 b3, .int .i64 b4, .int .i64 b5] 28)) := (Row.new w a0 a1 a2 a3 a4 a5 28).later ((Q.refl _).alloc _)
  have r1 : Row (w.heap.size + 1) [b0, b1, b2, b3, b4, b5] ((w.alloc (.cells #[.int .i64 a0, .int .i64 a1, .int .i64 a2, .int .i64 a3, .int .i64 a4, .int .i64 a5] 28)).alloc (.cells #[.int .i64 b0, .int .i64 b1, .int .i64 b2, .int .i64 b3, .int .i64 b4, .int .i64 b5] 28)) := by simpa using Row.new (w.alloc (.cells #[.int .i64 a0, .int .i64 a1, .int .i64 a2, .int .i64 a3, .int .i64 a4, .int .i64 a5] 28)) b0 b1 b2 b3 b4 b5 28
  have z3 := bd64 u3
  have z4 := bd64 u4
  have z5 := bd64 u5
  have k1 := fun w2 => time_any a0 a1 a2 a3 a4 a5 z3 z4 z5 w2
  clear z3 z4 z5 u0 u1 u2 u3 u4 u5 v0 v1 v2 v3 v4 v5
  go_enter Tryd.func12, Tryd.ntmps12
  go_wp2_with (first
    | (go_at_call 26; refine (k1 _).mono ?_; rintro e w1 ⟨rfl, hq1⟩; have ra1 := r0.later hq1; have rb1 := r1.later hq1; obtain ⟨x0, x1, x2, x3, x4, x5, x6⟩ := ra1.six; obtain ⟨y0, y1, y2, y3, y4, y5, y6⟩ := rb1.six)
    | (go_at_call 33; refine (rtime_any _ _ _ _ _ _ _).mono ?_; rintro e w2 ⟨rfl, hq2⟩; have ra2 := ra1.later hq2; have rb2 := rb1.later hq2; obtain ⟨m0, m1, m2, m3, m4, m5, m6⟩ := ra2.six; obtain ⟨n0, n1, n2, n3, n4, n5, n6⟩ := rb2.six))
  go_region_held3 (fun w' => w'.cell? ⟨w.heap.size, 0, none⟩ = some (.int .i64 a0) ∧ w'.cell? ⟨w.heap.size, 1, none⟩ = some (.int .i64 a1) ∧ w'.cell? ⟨w.heap.size, 2, none⟩ = some (.int .i64 a2) ∧ w'.cell? ⟨w.heap.size, 3, none⟩ = some (.int .i64 a3) ∧ w'.cell? ⟨w.heap.size, 4, none⟩ = some (.int .i64 a4) ∧ w'.cell? ⟨w.heap.size, 5, none⟩ = some (.int .i64 a5) ∧ w'.cell? ⟨w.heap.size + 1, 0, none⟩ = some (.int .i64 b0) ∧ w'.cell? ⟨w.heap.size + 1, 1, none⟩ = some (.int .i64 b1) ∧ w'.cell? ⟨w.heap.size + 1, 2, none⟩ = some (.int .i64 b2) ∧ w'.cell? ⟨w.heap.size + 1, 3, none⟩ = some (.int .i64 b3) ∧ w'.cell? ⟨w.heap.size + 1, 4, none⟩ = some (.int .i64 b4) ∧ w'.cell? ⟨w.heap.size + 1, 5, none⟩ = some (.int .i64 b5)) (go_keep) (first
    | (go_at_call 34; with_reducible refine (keep2 (order_any a0 a1 a2 a3 a4 a5 b0 b1 b2 b3 b4 b5 _) (ra2.later (Q.drew (Q.refl _))) (rb2.later (Q.drew (Q.refl _)))).mono ?_; rintro e w3 ⟨rfl, hq3, ra3, rb3⟩; obtain ⟨f0, f1, f2, f3, f4, f5, f6⟩ := ra3.six; obtain ⟨g0, g1, g2, g3, g4, g5, g6⟩ := rb3.six)
    | (go_at_call 35; with_reducible refine (keep2 (rorder_any a0 a1 a2 a3 a4 a5 b0 b1 b2 b3 b4 b5 _) ra3 rb3).mono ?_; rintro e w4 ⟨rfl, hq4, ra4, rb4⟩; obtain ⟨h0, h1, h2, h3, h4, h5, h6⟩ := ra4.six; obtain ⟨i0, i1, i2, i3, i4, i5, i6⟩ := rb4.six)
    | (go_at_call 17; with_reducible refine (keep2 (works_any _ (Tab.later hT (by repeat (first | exact Q.refl _ | assumption | refine Q.alloc ?_ _ | refine Q.drew ?_ | refine Q.drewN ?_ _ | refine Q.setCell ?_ (Q.size (by assumption)) _ | refine Q.trans ?_ (by assumption))))) ra4 rb4).mono ?_; rintro e w5 ⟨rfl, hq5, ra5, rb5⟩; obtain ⟨j0, j1, j2, j3, j4, j5, j6⟩ := ra5.six; obtain ⟨k0, k1, k2, k3, k4, k5, k6⟩ := rb5.six))
  all_goals
    go_wp2_with fail
    go_ret
    exact ⟨rfl, by repeat (first | exact Q.refl _ | assumption | refine Q.alloc ?_ _ | refine Q.drew ?_ | refine Q.drewN ?_ _ | refine Q.setCell ?_ (Q.size (by assumption)) _ | refine Q.trans ?_ (by assumption))⟩
theorem ofE_good (t : Int) (h : Cal.timeOk t) : Cal.ofE t = 0 := if_pos h
theorem ofE_bad (t : Int) (h : ¬ Cal.timeOk t) : Cal.ofE t = 14 := if_neg h
theorem civilWeeks_walk (t : Int) (w0 : (Lit.int .i64 t).wf = true) (w : World) (hT : Tab w) :
    Calls Tryd.prog 7 #[.int .i64 t] w fun e w' => e = .returned (.bool true) ∧ Q w w' := by
  clear w0
  by_cases h : 0 ≤ t ∧ t ≤ 253401695999
  · obtain ⟨h1, h2⟩ := h
    have k1 := fun w2 => week_good t (by unfold Cal.timeOk; omega) w2
    have k2 := fun w2 => week_good (t + 86400) (by unfold Cal.timeOk; omega) w2
    have k3 := fun w2 => week_good (t + 604800) (by unfold Cal.timeOk; omega) w2
    have k4 := fun w2 => week_good (t - t % 86400) (by unfold Cal.timeOk; omega) w2
    obtain ⟨A, hA⟩ : ∃ x, (t / 86400 + 4) % 7 = x := ⟨_, rfl⟩
    have e2 : ((t + 86400) / 86400 + 4) % 7 = (A + 1) % 7 := by omega
    have e3 : ((t + 604800) / 86400 + 4) % 7 = A := by omega
    have e4 : ((t - t % 86400) / 86400 + 4) % 7 = A := by omega
    have hb : 0 ≤ A ∧ A ≤ 6 := by omega
    rw [hA] at k1
    rw [e2] at k2
    rw [e3] at k3
    rw [e4] at k4
    clear hA e2 e3 e4
    go_enter Tryd.func7, Tryd.ntmps7
    go_wp2_with (first
      | (go_at_call 20; with_reducible refine (k1 _).mono ?_; rintro e w1 ⟨rfl, rfl⟩)
      | (go_at_call 20; with_reducible refine (k2 _).mono ?_; rintro e w1 ⟨rfl, rfl⟩)
      | (go_at_call 20; with_reducible refine (k3 _).mono ?_; rintro e w1 ⟨rfl, rfl⟩)
      | (go_at_call 20; with_reducible refine (k4 _).mono ?_; rintro e w1 ⟨rfl, rfl⟩)
      | (go_at_call 17; refine (works_any _ (Tab.later hT (by repeat (first | exact Q.refl _ | assumption | refine Q.alloc ?_ _ | refine Q.drew ?_ | refine Q.drewN ?_ _ | refine Q.setCell ?_ (Q.size (by assumption)) _ | refine Q.trans ?_ (by assumption))))).mono ?_; rintro e w9 ⟨rfl, hq9⟩))
    go_ret
    exact ⟨rfl, by repeat (first | exact Q.refl _ | assumption | refine Q.alloc ?_ _ | refine Q.drew ?_ | refine Q.drewN ?_ _ | refine Q.setCell ?_ (Q.size (by assumption)) _ | refine Q.trans ?_ (by assumption))⟩
  · by_cases h1 : t < 0
    · have k1 := fun w2 => week_bad t (by unfold Cal.timeOk; omega) w2
      have y1 : decide (0 ≤ t) = false := by simp; omega
      clear h
      go_enter Tryd.func7, Tryd.ntmps7
      go_wp2_with (first
        | (go_at_call 20; refine (k1 _).mono ?_; rintro e w1 ⟨rfl, rfl⟩)
        | (go_at_call 17; refine (works_any _ (Tab.later hT (by repeat (first | exact Q.refl _ | assumption | refine Q.alloc ?_ _ | refine Q.drew ?_ | refine Q.drewN ?_ _ | refine Q.setCell ?_ (Q.size (by assumption)) _ | refine Q.trans ?_ (by assumption))))).mono ?_; rintro e w9 ⟨rfl, hq9⟩))
      go_ret
      exact ⟨rfl, by repeat (first | exact Q.refl _ | assumption | refine Q.alloc ?_ _ | refine Q.drew ?_ | refine Q.drewN ?_ _ | refine Q.setCell ?_ (Q.size (by assumption)) _ | refine Q.trans ?_ (by assumption))⟩
    · by_cases h2 : t ≤ 253402300799
      · have k1 := fun w2 => week_good t (by unfold Cal.timeOk; omega) w2
        obtain ⟨A, hA⟩ : ∃ x, (t / 86400 + 4) % 7 = x := ⟨_, rfl⟩
        rw [hA] at k1
        have h0 : 0 ≤ t := by omega
        have h3 : 253401695999 < t := by omega
        clear h hA h1
        go_enter Tryd.func7, Tryd.ntmps7
        go_wp2_with (first
          | (go_at_call 20; refine (k1 _).mono ?_; rintro e w1 ⟨rfl, rfl⟩)
          | (go_at_call 17; refine (works_any _ (Tab.later hT (by repeat (first | exact Q.refl _ | assumption | refine Q.alloc ?_ _ | refine Q.drew ?_ | refine Q.drewN ?_ _ | refine Q.setCell ?_ (Q.size (by assumption)) _ | refine Q.trans ?_ (by assumption))))).mono ?_; rintro e w9 ⟨rfl, hq9⟩))
        go_ret
        exact ⟨rfl, by repeat (first | exact Q.refl _ | assumption | refine Q.alloc ?_ _ | refine Q.drew ?_ | refine Q.drewN ?_ _ | refine Q.setCell ?_ (Q.size (by assumption)) _ | refine Q.trans ?_ (by assumption))⟩
      · have k1 := fun w2 => week_bad t (by unfold Cal.timeOk; omega) w2
        have h0 : 0 ≤ t := by omega
        have h3 : 253402300799 < t := by omega
        have y1 : decide (t ≤ 253402300799) = false := by simp; omega
        clear h h1 h2
        go_enter Tryd.func7, Tryd.ntmps7
        go_wp2_with (first
          | (go_at_call 20; refine (k1 _).mono ?_; rintro e w1 ⟨rfl, rfl⟩)
          | (go_at_call 17; refine (works_any _ (Tab.later hT (by repeat (first | exact Q.refl _ | assumption | refine Q.alloc ?_ _ | refine Q.drew ?_ | refine Q.drewN ?_ _ | refine Q.setCell ?_ (Q.size (by assumption)) _ | refine Q.trans ?_ (by assumption))))).mono ?_; rintro e w9 ⟨rfl, hq9⟩))
        go_ret
        exact ⟨rfl, by repeat (first | exact Q.refl _ | assumption | refine Q.alloc ?_ _ | refine Q.drew ?_ | refine Q.drewN ?_ _ | refine Q.setCell ?_ (Q.size (by assumption)) _ | refine Q.trans ?_ (by assumption))⟩
set_option maxHeartbeats 1000000 in
theorem civilCycles_walk (t : Int) (w0 : (Lit.int .i64 t).wf = true) (w : World) (hT : Tab w) :
    Calls Tryd.prog 8 #[.int .i64 t] w fun e w' => e = .returned (.bool true) ∧ Q w w' := by
  clear w0
  by_cases h : 0 ≤ t ∧ t ≤ 240779519999
  · obtain ⟨h1, h2⟩ := h
    have g1 : Cal.timeOk t := by unfold Cal.timeOk; omega
    have g2 : Cal.timeOk (t + 12622780800) := by unfold Cal.timeOk; omega
    have k1 := fun w2 => week_good t g1 w2
    have k2 := fun w2 => week_good (t + 12622780800) g2 w2
    have o1 := fun w2 => of_good t g1 w2
    have o2 := fun w2 => of_good (t + 12622780800) g2 w2
    have cb := Cal.c_bd g1
    obtain ⟨c1, c2, c3, c4, c5, c6⟩ := Cal.cycle t
    rw [c1, c2, c3, c4, c5, c6] at o2
    obtain ⟨A, hA⟩ : ∃ x, (t / 86400 + 4) % 7 = x := ⟨_, rfl⟩
    have e2 : ((t + 12622780800) / 86400 + 4) % 7 = A := by omega
    rw [hA] at k1
    rw [e2] at k2
    obtain ⟨y, hy⟩ : ∃ x, Cal.cY t = x := ⟨_, rfl⟩
    obtain ⟨m, hm⟩ : ∃ x, Cal.cM t = x := ⟨_, rfl⟩
    obtain ⟨d, hd⟩ : ∃ x, Cal.cD t = x := ⟨_, rfl⟩
    obtain ⟨hh, hhh⟩ : ∃ x, Cal.cH t = x := ⟨_, rfl⟩
    obtain ⟨i, hi⟩ : ∃ x, Cal.cI t = x := ⟨_, rfl⟩
    obtain ⟨s, hs⟩ : ∃ x, Cal.cS t = x := ⟨_, rfl⟩
    rw [hy, hm, hd, hhh, hi, hs] at o1 o2
    rw [hy] at cb
    have cy : 1970 ≤ y ∧ y ≤ 9999 := ⟨cb.1, cb.2.1⟩
    have he := fun w2 => eql6 (y + 400) m d hh i s (y + 400) m d hh i s w2
    simp only [same6_refl] at he
    clear hA e2 c1 c2 c3 c4 c5 c6 hy hm hd hhh hi hs g1 g2 cb
    go_enter Tryd.func8, Tryd.ntmps8
    go_wp2_with (first
      | (go_at_call 18; with_reducible refine (o1 _).mono ?_; rintro e w1 ⟨rfl, hq1⟩; have ra := Row.new w1 y m d hh i s 28)
      | (go_at_call 18; with_reducible refine (o2 _).mono ?_; rintro e w2 ⟨rfl, hq2⟩; have z0 := box_free hq2 0; have ra2 := ra.later hq2; obtain ⟨x0, x1, x2, x3, x4, x5, x6⟩ := ra2.six)
      | (go_at_call 20; with_reducible refine (k1 _).mono ?_; rintro e w3 ⟨rfl, rfl⟩)
      | (go_at_call 20; with_reducible refine (k2 _).mono ?_; rintro e w3 ⟨rfl, rfl⟩)
      | (go_at_call 17; refine (works_any _ (Tab.later hT (by repeat (first | exact Q.refl _ | assumption | refine Q.alloc ?_ _ | refine Q.drew ?_ | refine Q.drewN ?_ _ | refine Q.setCell ?_ (Q.size (by assumption)) _ | refine Q.trans ?_ (by assumption))))).mono ?_; rintro e w9 ⟨rfl, hq9⟩))
    go_ret
    exact ⟨rfl, by repeat (first | exact Q.refl _ | assumption | refine Q.alloc ?_ _ | refine Q.drew ?_ | refine Q.drewN ?_ _ | refine Q.setCell ?_ (Q.size (by assumption)) _ | refine Q.trans ?_ (by assumption))⟩
  · by_cases h1 : t < 0
    · clear h
      go_enter Tryd.func8, Tryd.ntmps8
      go_wp2_with (first
        | (go_at_call 17; refine (works_any _ (Tab.later hT (by repeat (first | exact Q.refl _ | assumption | refine Q.alloc ?_ _ | refine Q.drew ?_ | refine Q.drewN ?_ _ | refine Q.setCell ?_ (Q.size (by assumption)) _ | refine Q.trans ?_ (by assumption))))).mono ?_; rintro e w9 ⟨rfl, hq9⟩))
      go_ret
      exact ⟨rfl, by repeat (first | exact Q.refl _ | assumption | refine Q.alloc ?_ _ | refine Q.drew ?_ | refine Q.drewN ?_ _ | refine Q.setCell ?_ (Q.size (by assumption)) _ | refine Q.trans ?_ (by assumption))⟩
    · have h2 : 240779519999 < t := by omega
      have h0 : 0 ≤ t := by omega
      clear h h1
      go_enter Tryd.func8, Tryd.ntmps8
      go_wp2_with (first
        | (go_at_call 17; refine (works_any _ (Tab.later hT (by repeat (first | exact Q.refl _ | assumption | refine Q.alloc ?_ _ | refine Q.drew ?_ | refine Q.drewN ?_ _ | refine Q.setCell ?_ (Q.size (by assumption)) _ | refine Q.trans ?_ (by assumption))))).mono ?_; rintro e w9 ⟨rfl, hq9⟩))
      go_ret
      exact ⟨rfl, by repeat (first | exact Q.refl _ | assumption | refine Q.alloc ?_ _ | refine Q.drew ?_ | refine Q.drewN ?_ _ | refine Q.setCell ?_ (Q.size (by assumption)) _ | refine Q.trans ?_ (by assumption))⟩
end Go.Proofs.YtdhlgmclogdplaaDoor
