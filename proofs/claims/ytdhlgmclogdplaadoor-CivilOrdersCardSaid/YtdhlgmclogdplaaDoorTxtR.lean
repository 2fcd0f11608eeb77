/- The walk of the law CivilOrders. -/
import Derived.Test.YtdhlgmclogdplaaDoorTxtN
namespace Go.Proofs.YtdhlgmclogdplaaDoor
open Go.RowKit
set_option linter.unusedVariables false
set_option linter.unusedSimpArgs false
set_option maxHeartbeats 4000000 in
theorem orders_core (a0 a1 a2 a3 a4 a5 b0 b1 b2 b3 b4 b5 c0 c1 c2 c3 c4 c5 : Int) (X Y Z : Int)
    (k1 : ∀ w2, Calls Tryd.prog 34 #[.agg #[.int .i64 a0, .int .i64 a1, .int .i64 a2, .int .i64 a3, .int .i64 a4, .int .i64 a5], .agg #[.int .i64 b0, .int .i64 b1, .int .i64 b2, .int .i64 b3, .int .i64 b4, .int .i64 b5]] w2 fun e w' => e = .returned (.int .i64 X) ∧ Q w2 w')
    (k2 : ∀ w2, Calls Tryd.prog 34 #[.agg #[.int .i64 b0, .int .i64 b1, .int .i64 b2, .int .i64 b3, .int .i64 b4, .int .i64 b5], .agg #[.int .i64 c0, .int .i64 c1, .int .i64 c2, .int .i64 c3, .int .i64 c4, .int .i64 c5]] w2 fun e w' => e = .returned (.int .i64 Y) ∧ Q w2 w')
    (k3 : ∀ w2, Calls Tryd.prog 34 #[.agg #[.int .i64 a0, .int .i64 a1, .int .i64 a2, .int .i64 a3, .int .i64 a4, .int .i64 a5], .agg #[.int .i64 c0, .int .i64 c1, .int .i64 c2, .int .i64 c3, .int .i64 c4, .int .i64 c5]] w2 fun e w' => e = .returned (.int .i64 Z) ∧ Q w2 w')
    (k4 : ∀ w2, Calls Tryd.prog 34 #[.agg #[.int .i64 b0, .int .i64 b1, .int .i64 b2, .int .i64 b3, .int .i64 b4, .int .i64 b5], .agg #[.int .i64 a0, .int .i64 a1, .int .i64 a2, .int .i64 a3, .int .i64 a4, .int .i64 a5]] w2 fun e w' => e = .returned (.int .i64 (-X)) ∧ Q w2 w')
    (k5 : ∀ w2, Calls Tryd.prog 34 #[.agg #[.int .i64 a0, .int .i64 a1, .int .i64 a2, .int .i64 a3, .int .i64 a4, .int .i64 a5], .agg #[.int .i64 a0, .int .i64 a1, .int .i64 a2, .int .i64 a3, .int .i64 a4, .int .i64 a5]] w2 fun e w' => e = .returned (.int .i64 0) ∧ Q w2 w')
    (he : ∀ w2, (binOp .eql 28 (.agg #[.int .i64 a0, .int .i64 a1, .int .i64 a2, .int .i64 a3, .int .i64 a4, .int .i64 a5]) (.agg #[.int .i64 b0, .int .i64 b1, .int .i64 b2, .int .i64 b3, .int .i64 b4, .int .i64 b5])).run Tryd.prog w2 = .ok (.bool (X == 0)) w2)
    (hZ : -1 ≤ Z ∧ Z ≤ 1)
    (hc : (X = -1 ∧ Y = -1 ∧ Z = -1) ∨ (X = -1 ∧ Y = 0 ∧ Z = -1) ∨ (X = 0 ∧ Y = -1 ∧ Z = -1) ∨ (X = 0 ∧ Y = 0 ∧ Z = 0) ∨ (X = -1 ∧ Y = 1) ∨ (X = 0 ∧ Y = 1) ∨ (X = 1 ∧ (Y = -1 ∨ Y = 0 ∨ Y = 1))) (w : World) (hT : Tab w) :
    Calls Tryd.prog 14 #[.agg #[.int .i64 a0, .int .i64 a1, .int .i64 a2, .int .i64 a3, .int .i64 a4, .int .i64 a5], .agg #[.int .i64 b0, .int .i64 b1, .int .i64 b2, .int .i64 b3, .int .i64 b4, .int .i64 b5], .agg #[.int .i64 c0, .int .i64 c1, .int .i64 c2, .int .i64 c3, .int .i64 c4, .int .i64 c5]] w fun e w' => e = .returned (.bool true) ∧ Q w w' := by
  have ra0 : Row w.heap.size [a0, a1, a2, a3, a4, a5] (((w.alloc (.cells #[.int .i64 a0, .int .i64 a1, .int .i64 a2, .int .i64 a3, .int .i64 a4, .int .i64 a5] 28)).alloc (.cells #[.int .i64 b0, .int .i64 b1, .int .i64 b2, .int .i64 b3, .int .i64 b4, .int .i64 b5] 28)).alloc (.cells #[.int .i64 c0, .int .i64 c1, .int .i64 c2, .int .i64 c3, .int .i64 c4, .int .i64 c5] 28)) := ((Row.new w a0 a1 a2 a3 a4 a5 28).later ((Q.refl _).alloc _)).later ((Q.refl _).alloc _)
  have rb0 : Row (w.heap.size + 1) [b0, b1, b2, b3, b4, b5] (((w.alloc (.cells #[.int .i64 a0, .int .i64 a1, .int .i64 a2, .int .i64 a3, .int .i64 a4, .int .i64 a5] 28)).alloc (.cells #[.int .i64 b0, .int .i64 b1, .int .i64 b2, .int .i64 b3, .int .i64 b4, .int .i64 b5] 28)).alloc (.cells #[.int .i64 c0, .int .i64 c1, .int .i64 c2, .int .i64 c3, .int .i64 c4, .int .i64 c5] 28)) := by
    have := (Row.new (w.alloc (.cells #[.int .i64 a0, .int .i64 a1, .int .i64 a2, .int .i64 a3, .int .i64 a4, .int .i64 a5] 28)) b0 b1 b2 b3 b4 b5 28).later ((Q.refl _).alloc (.cells #[.int .i64 c0, .int .i64 c1, .int .i64 c2, .int .i64 c3, .int .i64 c4, .int .i64 c5] 28))
    simpa using this
  have rc0 : Row (w.heap.size + 2) [c0, c1, c2, c3, c4, c5] (((w.alloc (.cells #[.int .i64 a0, .int .i64 a1, .int .i64 a2, .int .i64 a3, .int .i64 a4, .int .i64 a5] 28)).alloc (.cells #[.int .i64 b0, .int .i64 b1, .int .i64 b2, .int .i64 b3, .int .i64 b4, .int .i64 b5] 28)).alloc (.cells #[.int .i64 c0, .int .i64 c1, .int .i64 c2, .int .i64 c3, .int .i64 c4, .int .i64 c5] 28)) := by
    have := Row.new ((w.alloc (.cells #[.int .i64 a0, .int .i64 a1, .int .i64 a2, .int .i64 a3, .int .i64 a4, .int .i64 a5] 28)).alloc (.cells #[.int .i64 b0, .int .i64 b1, .int .i64 b2, .int .i64 b3, .int .i64 b4, .int .i64 b5] 28)) c0 c1 c2 c3 c4 c5 28
    simpa using this
  obtain ⟨hz1, hz2⟩ := hZ
  rcases hc with ⟨rfl, rfl, rfl⟩ | ⟨rfl, rfl, rfl⟩ | ⟨rfl, rfl, rfl⟩ | ⟨rfl, rfl, rfl⟩ | ⟨rfl, rfl⟩ | ⟨rfl, rfl⟩ | ⟨rfl, rfl | rfl | rfl⟩
  all_goals
    simp at he k4
    go_enter Tryd.func14, Tryd.ntmps14
    go_wp2_with (first
      | (go_at_call 34; with_reducible refine (k1 _).mono ?_; rintro e w1 ⟨rfl, hq1⟩; have ra1 := ra0.later hq1; have rb1 := rb0.later hq1; have rc1 := rc0.later hq1; obtain ⟨x10, x11, x12, x13, x14, x15, x16⟩ := ra1.six; obtain ⟨y10, y11, y12, y13, y14, y15, y16⟩ := rb1.six; obtain ⟨z10, z11, z12, z13, z14, z15, z16⟩ := rc1.six)
      | (go_at_call 34; with_reducible refine (k2 _).mono ?_; rintro e w2 ⟨rfl, hq2⟩; have ra2 := ra1.later hq2; have rb2 := rb1.later hq2; have rc2 := rc1.later hq2; obtain ⟨x20, x21, x22, x23, x24, x25, x26⟩ := ra2.six; obtain ⟨y20, y21, y22, y23, y24, y25, y26⟩ := rb2.six; obtain ⟨z20, z21, z22, z23, z24, z25, z26⟩ := rc2.six)
      | (go_at_call 34; with_reducible refine (k3 _).mono ?_; rintro e w3 ⟨rfl, hq3⟩; have ra3 := ra2.later hq3; have rb3 := rb2.later hq3; have rc3 := rc2.later hq3; obtain ⟨x30, x31, x32, x33, x34, x35, x36⟩ := ra3.six; obtain ⟨y30, y31, y32, y33, y34, y35, y36⟩ := rb3.six; obtain ⟨z30, z31, z32, z33, z34, z35, z36⟩ := rc3.six)
      | (go_at_call 34; with_reducible refine (k4 _).mono ?_; rintro e w4 ⟨rfl, hq4⟩; have ra4 := ra3.later hq4; have rb4 := rb3.later hq4; have rc4 := rc3.later hq4; obtain ⟨x40, x41, x42, x43, x44, x45, x46⟩ := ra4.six; obtain ⟨y40, y41, y42, y43, y44, y45, y46⟩ := rb4.six; obtain ⟨z40, z41, z42, z43, z44, z45, z46⟩ := rc4.six)
      | (go_at_call 34; with_reducible refine (k5 _).mono ?_; rintro e w5 ⟨rfl, hq5⟩; have ra5 := ra4.later hq5; have rb5 := rb4.later hq5; have rc5 := rc4.later hq5; obtain ⟨x50, x51, x52, x53, x54, x55, x56⟩ := ra5.six; obtain ⟨y50, y51, y52, y53, y54, y55, y56⟩ := rb5.six; obtain ⟨z50, z51, z52, z53, z54, z55, z56⟩ := rc5.six)
      | (go_at_call 17; refine (works_any _ (Tab.later hT (by repeat (first | exact Q.refl _ | assumption | refine Q.alloc ?_ _ | refine Q.drew ?_ | refine Q.drewN ?_ _ | refine Q.setCell ?_ (Q.size (by assumption)) _ | refine Q.trans ?_ (by assumption))))).mono ?_; rintro e w9 ⟨rfl, hq9⟩))
    go_ret
    exact ⟨rfl, by repeat (first | exact Q.refl _ | assumption | refine Q.alloc ?_ _ | refine Q.drew ?_ | refine Q.drewN ?_ _ | refine Q.setCell ?_ (Q.size (by assumption)) _ | refine Q.trans ?_ (by assumption))⟩
theorem same6_fl (a0 a1 a2 a3 a4 a5 b0 b1 b2 b3 b4 b5 : Int) : same6 a0 a1 a2 a3 a4 a5 b0 b1 b2 b3 b4 b5 = (Cal.cmpL (Cal.fl a0 a1 a2 a3 a4 a5) (Cal.fl b0 b1 b2 b3 b4 b5) == 0) := by
  rw [Bool.eq_iff_iff, same6_iff, beq_iff_eq, Cal.cmpL_iff]
  simp [Cal.fl]
theorem civilOrders_walk (a0 a1 a2 a3 a4 a5 b0 b1 b2 b3 b4 b5 c0 c1 c2 c3 c4 c5 : Int) (u0 : (Lit.int .i64 a0).wf = true) (u1 : (Lit.int .i64 a1).wf = true) (u2 : (Lit.int .i64 a2).wf = true) (u3 : (Lit.int .i64 a3).wf = true) (u4 : (Lit.int .i64 a4).wf = true) (u5 : (Lit.int .i64 a5).wf = true) (v0 : (Lit.int .i64 b0).wf = true) (v1 : (Lit.int .i64 b1).wf = true) (v2 : (Lit.int .i64 b2).wf = true) (v3 : (Lit.int .i64 b3).wf = true) (v4 : (Lit.int .i64 b4).wf = true) (v5 : (Lit.int .i64 b5).wf = true) (x0 : (Lit.int .i64 c0).wf = true) (x1 : (Lit.int .i64 c1).wf = true) (x2 : (Lit.int .i64 c2).wf = true) (x3 : (Lit.int .i64 c3).wf = true) (x4 : (Lit.int .i64 c4).wf = true) (x5 : (Lit.int .i64 c5).wf = true) (w : World) (hT : Tab w) :
    Calls Tryd.prog 14 #[.agg #[.int .i64 a0, .int .i64 a1, .int .i64 a2, .int .i64 a3, .int .i64 a4, .int .i64 a5], .agg #[.int .i64 b0, .int .i64 b1, .int .i64 b2, .int .i64 b3, .int .i64 b4, .int .i64 b5], .agg #[.int .i64 c0, .int .i64 c1, .int .i64 c2, .int .i64 c3, .int .i64 c4, .int .i64 c5]] w fun e w' => e = .returned (.bool true) ∧ Q w w' := by
  have r1 := Cal.cmpL_range (Cal.fl a0 a1 a2 a3 a4 a5) (Cal.fl b0 b1 b2 b3 b4 b5)
  have r2 := Cal.cmpL_range (Cal.fl b0 b1 b2 b3 b4 b5) (Cal.fl c0 c1 c2 c3 c4 c5)
  have r3 := Cal.cmpL_range (Cal.fl a0 a1 a2 a3 a4 a5) (Cal.fl c0 c1 c2 c3 c4 c5)
  have hle := Cal.cmpL_le (Cal.fl a0 a1 a2 a3 a4 a5) (Cal.fl b0 b1 b2 b3 b4 b5) (Cal.fl c0 c1 c2 c3 c4 c5)
  have h0 : Cal.cmpL (Cal.fl a0 a1 a2 a3 a4 a5) (Cal.fl b0 b1 b2 b3 b4 b5) = 0 → Cal.cmpL (Cal.fl b0 b1 b2 b3 b4 b5) (Cal.fl c0 c1 c2 c3 c4 c5) = 0 → Cal.cmpL (Cal.fl a0 a1 a2 a3 a4 a5) (Cal.fl c0 c1 c2 c3 c4 c5) = 0 := fun p q => by
    rw [Cal.cmpL_iff] at *; rw [p, q]
  have k1 := order_any a0 a1 a2 a3 a4 a5 b0 b1 b2 b3 b4 b5
  have k2 := order_any b0 b1 b2 b3 b4 b5 c0 c1 c2 c3 c4 c5
  have k3 := order_any a0 a1 a2 a3 a4 a5 c0 c1 c2 c3 c4 c5
  have k4 := order_any b0 b1 b2 b3 b4 b5 a0 a1 a2 a3 a4 a5
  have k5 := order_any a0 a1 a2 a3 a4 a5 a0 a1 a2 a3 a4 a5
  have k6 := eql6 a0 a1 a2 a3 a4 a5 b0 b1 b2 b3 b4 b5
  simp only [same6_fl] at k6
  rw [Cal.cmpL_swap] at k4
  rw [Cal.cmpL_self] at k5
  obtain ⟨X, hX⟩ : ∃ x, Cal.cmpL (Cal.fl a0 a1 a2 a3 a4 a5) (Cal.fl b0 b1 b2 b3 b4 b5) = x := ⟨_, rfl⟩
  obtain ⟨Y, hY⟩ : ∃ x, Cal.cmpL (Cal.fl b0 b1 b2 b3 b4 b5) (Cal.fl c0 c1 c2 c3 c4 c5) = x := ⟨_, rfl⟩
  obtain ⟨Z, hZ⟩ : ∃ x, Cal.cmpL (Cal.fl a0 a1 a2 a3 a4 a5) (Cal.fl c0 c1 c2 c3 c4 c5) = x := ⟨_, rfl⟩
  rw [hX] at k1 k4 r1 hle h0
  simp only [hX] at k6
  rw [hY] at k2 r2 hle h0
  rw [hZ] at k3 r3 hle h0
  have hc : (X = -1 ∧ Y = -1 ∧ Z = -1) ∨ (X = -1 ∧ Y = 0 ∧ Z = -1) ∨ (X = 0 ∧ Y = -1 ∧ Z = -1) ∨ (X = 0 ∧ Y = 0 ∧ Z = 0) ∨ (X = -1 ∧ Y = 1) ∨ (X = 0 ∧ Y = 1) ∨ (X = 1 ∧ (Y = -1 ∨ Y = 0 ∨ Y = 1)) := by
    clear k1 k2 k3 k4 k5 k6 r3
    rcases r1 with p | p | p
    · rcases r2 with q | q | q
      · exact Or.inl ⟨p, q, (hle (by rw [p]; decide) (by rw [q]; decide)).2 (Or.inl p)⟩
      · exact Or.inr (Or.inl ⟨p, q, (hle (by rw [p]; decide) (by rw [q]; decide)).2 (Or.inl p)⟩)
      · exact Or.inr (Or.inr (Or.inr (Or.inr (Or.inl ⟨p, q⟩))))
    · rcases r2 with q | q | q
      · exact Or.inr (Or.inr (Or.inl ⟨p, q, (hle (by rw [p]; decide) (by rw [q]; decide)).2 (Or.inr q)⟩))
      · exact Or.inr (Or.inr (Or.inr (Or.inl ⟨p, q, h0 p q⟩)))
      · exact Or.inr (Or.inr (Or.inr (Or.inr (Or.inr (Or.inl ⟨p, q⟩)))))
    · exact Or.inr (Or.inr (Or.inr (Or.inr (Or.inr (Or.inr ⟨p, r2⟩)))))
  have hz : -1 ≤ Z ∧ Z ≤ 1 := by clear k1 k2 k3 k4 k5 k6 r1 r2 hle h0 hc; omega
  exact orders_core a0 a1 a2 a3 a4 a5 b0 b1 b2 b3 b4 b5 c0 c1 c2 c3 c4 c5 X Y Z k1 k2 k3 k4 k5 k6 hz hc w hT
end Go.Proofs.YtdhlgmclogdplaaDoor
