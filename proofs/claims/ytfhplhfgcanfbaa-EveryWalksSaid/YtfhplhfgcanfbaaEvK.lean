/- The contract of every.Meet. -/
import Derived.Test.YtfhplhfgcanfbaaEvC
import Derived.Test.YtfhplhfgcanfbaaEvJ
import Derived.Deep.RegionHeld3
namespace Go.Proofs.Ytfhplhfgcanfbaa
open Go.RowKit
set_option linter.unusedVariables false
set_option linter.unusedSimpArgs false
/-- the first shared time, or none -/
def MeetPost (s1 p1 c1 s2 p2 c2 : Int) (w : World) (e : Ending) (w' : World) : Prop := (∃ (t : Int) (ok : Bool), e = .returned (.tuple #[.int .i64 t, .bool ok, .int .i64 0]) ∧ Ev.MeetR s1 p1 c1 s2 p2 c2 t ok) ∧ Q w w'
theorem keep4 {P : Program} {f : Nat} {args : Array Value} {v : Ending} {w2 : World} (B : Nat) (x y z u : Value) (k : Calls P f args w2 fun e w' => e = v ∧ Q w2 w')
    (h : w2.cell? ⟨B, 0, none⟩ = some x ∧ w2.cell? ⟨B, 1, none⟩ = some y ∧ w2.cell? ⟨B, 2, none⟩ = some z ∧ w2.cell? ⟨B, 3, none⟩ = some u ∧ B < w2.heap.size) :
    Calls P f args w2 fun e w' => e = v ∧ Q w2 w' ∧ w'.cell? ⟨B, 0, none⟩ = some x ∧ w'.cell? ⟨B, 1, none⟩ = some y ∧ w'.cell? ⟨B, 2, none⟩ = some z ∧ w'.cell? ⟨B, 3, none⟩ = some u ∧ B < w'.heap.size := by
  obtain ⟨h0, h1, h2, h3, h4⟩ := h
  exact k.mono fun e w' ⟨a, q⟩ => ⟨a, q, (q.cell (p := ⟨B, 0, none⟩) h4).trans h0, (q.cell (p := ⟨B, 1, none⟩) h4).trans h1, (q.cell (p := ⟨B, 2, none⟩) h4).trans h2, (q.cell (p := ⟨B, 3, none⟩) h4).trans h3, Nat.lt_of_lt_of_le h4 q.size⟩
set_option maxHeartbeats 2000000 in
theorem meet_late (s1 p1 c1 s2 p2 c2 : Int) (h1 : Ev.Ok s1 p1 c1) (h2 : Ev.Ok s2 p2 c2) (hs : s2 ≤ s1) (w : World) :
    Calls Try.prog 17 #[.agg #[.int .i64 s1, .int .i64 p1, .int .i64 c1], .agg #[.int .i64 s2, .int .i64 p2, .int .i64 c2]] w (MeetPost s1 p1 c1 s2 p2 c2 w) := by
  have k1 := fun w2 => of_none s1 p1 c1 h1 w2
  have k2 := fun w2 => of_none s2 p2 c2 h2 w2
  have b1 := h1
  have b2 := h2
  unfold Ev.Ok at b1 b2
  obtain ⟨n1, hn1⟩ : ∃ n, Ev.num s1 p1 c1 = n := ⟨_, rfl⟩
  obtain ⟨n2, hn2⟩ : ∃ n, Ev.num s2 p2 c2 = n := ⟨_, rfl⟩
  rw [hn1] at k1
  rw [hn2] at k2
  have N1 := Lib.hid hn1
  have N2 := Lib.hid hn2
  clear hn1 hn2
  go_enter Try.func17, Try.ntmps17
  go_wp2_with (first
    | (go_at_call 34; with_reducible refine (k1 _).mono ?_; rintro e w1 ⟨rfl, hq1⟩; obtain ⟨x1, x2, x3⟩ := qcell hq1; have hz1 : w.heap.size + 1 < w1.heap.size := (by have := hq1.size; simp at this; omega))
    | (go_at_call 34; with_reducible refine (k2 _).mono ?_; rintro e w2 ⟨rfl, hq2⟩; obtain ⟨y1, y2, y3⟩ := qcell hq2; have hz2 : w1.heap.size < w2.heap.size := (by have := hq2.size; simp at this; omega); obtain ⟨u0, u1, u2, u3, u4⟩ := box4 hq2))
  refine (inverse_any p1 p2 ⟨b1.2.2.1, b1.2.2.2.1⟩ ⟨b2.2.2.1, b2.2.2.2.1⟩ _).mono ?_
  rintro e w3 ⟨⟨g, x, rfl, he, gb, xb1, xb2⟩, rfl⟩
  have g1 := he.1
  have hm := Ev.eu_m he b2.2.2.1
  obtain ⟨d, hd⟩ : ∃ d, (s2 - s1) % p2 = d := ⟨_, rfl⟩
  have d0 : 0 ≤ d := by rw [← hd]; exact Int.emod_nonneg _ (by omega)
  have d1 : d < p2 := by rw [← hd]; exact Int.emod_lt_of_pos _ (by omega)
  have k3 := fun w2 => rest_any (s2 - s1) p2 (by omega) ⟨b2.2.2.1, b2.2.2.2.1⟩ w2
  rw [hd] at k3
  by_cases hz : d % g = 0
  · obtain ⟨m, hme⟩ : ∃ m, p2 / g = m := ⟨_, rfl⟩
    obtain ⟨K, hK⟩ : ∃ K, (d / g * x) % m = K := ⟨_, rfl⟩
    obtain ⟨D, hD⟩ : ∃ D, d / g = D := ⟨_, rfl⟩
    rw [hme] at hm
    rw [hD] at hK
    have D0 : 0 ≤ D := by rw [← hD]; exact Int.ediv_nonneg d0 (by omega)
    have D1 : D ≤ d := by rw [← hD]; exact Int.ediv_le_self _ d0
    have k4 := fun w2 => rest_any D m (by omega) (by omega) w2
    have k5 := fun w2 => rest_any x m (by omega) (by omega) w2
    have e1 := Int.emod_nonneg D (show m ≠ 0 by omega)
    have e2 := Int.emod_lt_of_pos D (show 0 < m by omega)
    have e3 := Int.emod_nonneg x (show m ≠ 0 by omega)
    have e4 := Int.emod_lt_of_pos x (show 0 < m by omega)
    have k6 := fun w2 => prod_any (D % m) (x % m) m ⟨e1, e2⟩ ⟨e3, e4⟩ (by omega) w2
    rw [← Int.mul_emod, hK] at k6
    have K0 : 0 ≤ K := by rw [← hK]; exact Int.emod_nonneg _ (by omega)
    have K1 : K < m := by rw [← hK]; exact Int.emod_lt_of_pos _ (by omega)
    obtain ⟨A, hA⟩ : ∃ A, D % m = A := ⟨_, rfl⟩
    obtain ⟨X, hX⟩ : ∃ X, x % m = X := ⟨_, rfl⟩
    rw [hA] at k4 k6
    rw [hX] at k5 k6
    have fin := fun ok hok => Ev.prog_some h1 h2 he hd.symm hz hs (K := K) (by rw [hme, hD]; exact hK) ok hok
    rw [N1.out] at fin
    have hdf := bne_f hz
    have gz : (g = 0) = False := by simp; omega
    have wD : IntKind.i64.wrap D = D := IntWalk.i64_in _ (by omega)
    have tD : d.tdiv g = D := (Int.tdiv_eq_ediv_of_nonneg d0).trans hD
    by_cases hlt : K < n1
    · have hbd := tm_bd h1 K0 (show K < Ev.num s1 p1 c1 by rw [N1.out]; exact hlt)
      have k7 := fun w2 => at_in s1 p1 c1 n1 K K0 hlt hbd ⟨b1.1, b1.2.1⟩ w2
      obtain ⟨T, hT⟩ : ∃ T, s1 + K * p1 = T := ⟨_, rfl⟩
      have hTb : 0 ≤ T ∧ T ≤ 506804601598 := by omega
      have k8 := fun w2 => has_any s2 p2 c2 T h2 (by omega) w2
      rw [N2.out] at k8
      have fin := fun ok hok => fin ok hok
      obtain ⟨I, hI⟩ : ∃ I, Ev.isB s2 p2 c2 T = I := ⟨_, rfl⟩
      rw [hT] at k7 fin
      rw [hI] at k8 fin
      have FIN := Lib.hid (fin I (by rw [decide_eq_true hlt]; rfl))
      clear fin hK hA hX hd hz e1 e2 e3 e4 hbd hT hI he
      cases I
      all_goals
        go_wp2_with (first
          | (go_at_call 40; with_reducible refine (k3 _).mono ?_; rintro e w4 ⟨rfl, rfl⟩))
        go_region_held3 (fun w' => w'.cell? ⟨w1.heap.size, 0, none⟩ = some (.int .i64 s1) ∧ w'.cell? ⟨w1.heap.size, 1, none⟩ = some (.int .i64 p1) ∧ w'.cell? ⟨w1.heap.size, 2, none⟩ = some (.int .i64 c1) ∧ w'.cell? ⟨w1.heap.size, 3, none⟩ = some (.int .i64 n1)) (go_keep) (first
          | (go_at_call 40; with_reducible refine (k4 _).mono ?_; rintro e w5 ⟨rfl, rfl⟩)
          | (go_at_call 40; with_reducible refine (k5 _).mono ?_; rintro e w6 ⟨rfl, rfl⟩)
          | (go_at_call 42; with_reducible refine (keep4 w1.heap.size (.int .i64 s1) (.int .i64 p1) (.int .i64 c1) (.int .i64 n1) (k6 _) ?_).mono ?_; (refine ⟨(Q.cell (p := ⟨_, 0, none⟩) (((Q.refl w2).alloc _).drew) u4).trans u0, (Q.cell (p := ⟨_, 1, none⟩) (((Q.refl w2).alloc _).drew) u4).trans u1, (Q.cell (p := ⟨_, 2, none⟩) (((Q.refl w2).alloc _).drew) u4).trans u2, (Q.cell (p := ⟨_, 3, none⟩) (((Q.refl w2).alloc _).drew) u4).trans u3, ?_⟩; (simp; omega)); rintro e w7 ⟨rfl, hq7, t0, t1, t2, t3, t4⟩; obtain ⟨v1, v2, v3⟩ := qcell hq7; have hz7 : w2.heap.size < w7.heap.size := (by have := hq7.size; simp at this; omega))
          | (go_at_call 41; with_reducible refine (k7 _).mono ?_; rintro e w8 ⟨rfl, hq8⟩; obtain ⟨r1, r2, r3⟩ := qcell hq8; have hz9 : w2.heap.size < w8.heap.size := (by have := hq8.size; (try simp at this); omega)))
        all_goals
          go_wp2_with (go_at_call 43; refine (k8 _).mono ?_; rintro e w9 ⟨rfl, hq9⟩)
          go_ret3
          exact ⟨⟨_, _, rfl, FIN.out⟩, by repeat (first | exact Q.refl _ | assumption | refine Q.alloc ?_ _ | refine Q.drew ?_ | refine Q.drewN ?_ _ | refine Q.setCell ?_ (by first | exact Nat.le_refl _ | (simp; done) | (simp at *; omega)) _ | refine Q.trans ?_ (by assumption))⟩
    · have k7 := fun w2 => at_out s1 p1 c1 n1 K (Or.inr (by omega)) w2
      have FIN := Lib.hid (fin false (by rw [decide_eq_false hlt]; rfl))
      clear fin hK hA hX hd hz e1 e2 e3 e4 he
      go_wp2_with (first
        | (go_at_call 40; with_reducible refine (k3 _).mono ?_; rintro e w4 ⟨rfl, rfl⟩))
      go_region_held3 (fun w' => w'.cell? ⟨w1.heap.size, 0, none⟩ = some (.int .i64 s1) ∧ w'.cell? ⟨w1.heap.size, 1, none⟩ = some (.int .i64 p1) ∧ w'.cell? ⟨w1.heap.size, 2, none⟩ = some (.int .i64 c1) ∧ w'.cell? ⟨w1.heap.size, 3, none⟩ = some (.int .i64 n1)) (go_keep) (first
        | (go_at_call 40; with_reducible refine (k4 _).mono ?_; rintro e w5 ⟨rfl, rfl⟩)
        | (go_at_call 40; with_reducible refine (k5 _).mono ?_; rintro e w6 ⟨rfl, rfl⟩)
        | (go_at_call 42; with_reducible refine (keep4 w1.heap.size (.int .i64 s1) (.int .i64 p1) (.int .i64 c1) (.int .i64 n1) (k6 _) ?_).mono ?_; (refine ⟨(Q.cell (p := ⟨_, 0, none⟩) (((Q.refl w2).alloc _).drew) u4).trans u0, (Q.cell (p := ⟨_, 1, none⟩) (((Q.refl w2).alloc _).drew) u4).trans u1, (Q.cell (p := ⟨_, 2, none⟩) (((Q.refl w2).alloc _).drew) u4).trans u2, (Q.cell (p := ⟨_, 3, none⟩) (((Q.refl w2).alloc _).drew) u4).trans u3, ?_⟩; (simp; omega)); rintro e w7 ⟨rfl, hq7, t0, t1, t2, t3, t4⟩; obtain ⟨v1, v2, v3⟩ := qcell hq7; have hz7 : w2.heap.size < w7.heap.size := (by have := hq7.size; simp at this; omega))
        | (go_at_call 41; with_reducible refine (k7 _).mono ?_; rintro e w8 ⟨rfl, hq8⟩; obtain ⟨r1, r2, r3⟩ := qcell hq8; have hz9 : w2.heap.size < w8.heap.size := (by have := hq8.size; (try simp at this); omega)))
      all_goals
        go_wp2_with fail
        go_ret3
        exact ⟨⟨_, _, rfl, FIN.out⟩, by repeat (first | exact Q.refl _ | assumption | refine Q.alloc ?_ _ | refine Q.drew ?_ | refine Q.drewN ?_ _ | refine Q.setCell ?_ (by first | exact Nat.le_refl _ | (simp; done) | (simp at *; omega)) _ | refine Q.trans ?_ (by assumption))⟩
  · have hmr := Ev.prog_none (c1 := c1) (c2 := c2) h1 h2 he hd.symm hz
    have hdb := bne_t hz
    clear hd hz hm he
    go_wp2_with (first
      | (go_at_call 40; with_reducible refine (k3 _).mono ?_; rintro e w4 ⟨rfl, rfl⟩))
    go_ret3
    exact ⟨⟨_, _, rfl, hmr⟩, by repeat (first | exact Q.refl _ | assumption | refine Q.alloc ?_ _ | refine Q.drew ?_ | refine Q.drewN ?_ _ | refine Q.setCell ?_ (by first | exact Nat.le_refl _ | (simp; done) | (simp at *; omega)) _ | refine Q.trans ?_ (by assumption))⟩
set_option maxHeartbeats 2000000 in
theorem meet_early (s1 p1 c1 s2 p2 c2 : Int) (h1 : Ev.Ok s1 p1 c1) (h2 : Ev.Ok s2 p2 c2) (hlate : s1 < s2) (w : World) :
    Calls Try.prog 17 #[.agg #[.int .i64 s1, .int .i64 p1, .int .i64 c1], .agg #[.int .i64 s2, .int .i64 p2, .int .i64 c2]] w (MeetPost s1 p1 c1 s2 p2 c2 w) := by
  have hs : s1 ≤ s2 := by omega
  have k1 := fun w2 => of_none s1 p1 c1 h1 w2
  have k2 := fun w2 => of_none s2 p2 c2 h2 w2
  have b1 := h1
  have b2 := h2
  unfold Ev.Ok at b1 b2
  obtain ⟨n1, hn1⟩ : ∃ n, Ev.num s1 p1 c1 = n := ⟨_, rfl⟩
  obtain ⟨n2, hn2⟩ : ∃ n, Ev.num s2 p2 c2 = n := ⟨_, rfl⟩
  rw [hn1] at k1
  rw [hn2] at k2
  have N1 := Lib.hid hn1
  have N2 := Lib.hid hn2
  clear hn1 hn2
  go_enter Try.func17, Try.ntmps17
  go_wp2_with (first
    | (go_at_call 34; with_reducible refine (k1 _).mono ?_; rintro e w1 ⟨rfl, hq1⟩; obtain ⟨x1, x2, x3⟩ := qcell hq1; have hz1 : w.heap.size + 1 < w1.heap.size := (by have := hq1.size; simp at this; omega))
    | (go_at_call 34; with_reducible refine (k2 _).mono ?_; rintro e w2 ⟨rfl, hq2⟩; obtain ⟨y1, y2, y3⟩ := qcell hq2; have hz2 : w1.heap.size < w2.heap.size := (by have := hq2.size; simp at this; omega); obtain ⟨u0, u1, u2, u3, u4⟩ := box4 hq2))
  refine (inverse_any p2 p1 ⟨b2.2.2.1, b2.2.2.2.1⟩ ⟨b1.2.2.1, b1.2.2.2.1⟩ _).mono ?_
  rintro e w3 ⟨⟨g, x, rfl, he, gb, xb1, xb2⟩, hw3⟩
  have hne : ¬ w2.heap.size = w1.heap.size := by omega
  have hne' : ¬ w1.heap.size = w2.heap.size := by omega
  have hq3 : Q w w3 := by
    rw [← hw3]
    repeat (first | exact Q.refl _ | assumption | refine Q.alloc ?_ _ | refine Q.drew ?_ | refine Q.drewN ?_ _ | refine Q.setCell ?_ (by first | exact Nat.le_refl _ | (simp; done) | (simp at *; omega)) _ | refine Q.trans ?_ (by assumption))
  have hz3 : w2.heap.size < w3.heap.size := by rw [← hw3]; simp
  have v0 : w3.cell? ⟨w2.heap.size, 0, none⟩ = some (.int .i64 s1) := by rw [← hw3]; simp [go_sem, hne, hne', hz2, u0, u1, u2, u3]
  have v1 : w3.cell? ⟨w2.heap.size, 1, none⟩ = some (.int .i64 p1) := by rw [← hw3]; simp [go_sem, hne, hne', hz2, u0, u1, u2, u3]
  have v2 : w3.cell? ⟨w2.heap.size, 2, none⟩ = some (.int .i64 c1) := by rw [← hw3]; simp [go_sem, hne, hne', hz2, u0, u1, u2, u3]
  have v3 : w3.cell? ⟨w2.heap.size, 3, none⟩ = some (.int .i64 n1) := by rw [← hw3]; simp [go_sem, hne, hne', hz2, u0, u1, u2, u3]
  have u0 : w3.cell? ⟨w1.heap.size, 0, none⟩ = some (.int .i64 s2) := by rw [← hw3]; simp [go_sem, hne, hne', hz2, u0, u1, u2, u3]
  have u1 : w3.cell? ⟨w1.heap.size, 1, none⟩ = some (.int .i64 p2) := by rw [← hw3]; simp [go_sem, hne, hne', hz2, u0, u1, u2, u3]
  have u2 : w3.cell? ⟨w1.heap.size, 2, none⟩ = some (.int .i64 c2) := by rw [← hw3]; simp [go_sem, hne, hne', hz2, u0, u1, u2, u3]
  have u3 : w3.cell? ⟨w1.heap.size, 3, none⟩ = some (.int .i64 n2) := by rw [← hw3]; simp [go_sem, hne, hne', hz2, u0, u1, u2, u3]
  have u4 : w1.heap.size < w3.heap.size := by omega
  clear hw3
  have g1 := he.1
  have hm := Ev.eu_m he b1.2.2.1
  obtain ⟨d, hd⟩ : ∃ d, (s1 - s2) % p1 = d := ⟨_, rfl⟩
  have d0 : 0 ≤ d := by rw [← hd]; exact Int.emod_nonneg _ (by omega)
  have d1 : d < p1 := by rw [← hd]; exact Int.emod_lt_of_pos _ (by omega)
  have k3 := fun w2 => rest_any (s1 - s2) p1 (by omega) ⟨b1.2.2.1, b1.2.2.2.1⟩ w2
  rw [hd] at k3
  by_cases hz : d % g = 0
  · obtain ⟨m, hme⟩ : ∃ m, p1 / g = m := ⟨_, rfl⟩
    obtain ⟨K, hK⟩ : ∃ K, (d / g * x) % m = K := ⟨_, rfl⟩
    obtain ⟨D, hD⟩ : ∃ D, d / g = D := ⟨_, rfl⟩
    rw [hme] at hm
    rw [hD] at hK
    have D0 : 0 ≤ D := by rw [← hD]; exact Int.ediv_nonneg d0 (by omega)
    have D1 : D ≤ d := by rw [← hD]; exact Int.ediv_le_self _ d0
    have k4 := fun w2 => rest_any D m (by omega) (by omega) w2
    have k5 := fun w2 => rest_any x m (by omega) (by omega) w2
    have e1 := Int.emod_nonneg D (show m ≠ 0 by omega)
    have e2 := Int.emod_lt_of_pos D (show 0 < m by omega)
    have e3 := Int.emod_nonneg x (show m ≠ 0 by omega)
    have e4 := Int.emod_lt_of_pos x (show 0 < m by omega)
    have k6 := fun w2 => prod_any (D % m) (x % m) m ⟨e1, e2⟩ ⟨e3, e4⟩ (by omega) w2
    rw [← Int.mul_emod, hK] at k6
    have K0 : 0 ≤ K := by rw [← hK]; exact Int.emod_nonneg _ (by omega)
    have K1 : K < m := by rw [← hK]; exact Int.emod_lt_of_pos _ (by omega)
    obtain ⟨A, hA⟩ : ∃ A, D % m = A := ⟨_, rfl⟩
    obtain ⟨X, hX⟩ : ∃ X, x % m = X := ⟨_, rfl⟩
    rw [hA] at k4 k6
    rw [hX] at k5 k6
    have fin := fun ok hok => Ev.prog_some h2 h1 he hd.symm hz hs (K := K) (by rw [hme, hD]; exact hK) ok hok
    rw [N2.out] at fin
    have hdf := bne_f hz
    have gz : (g = 0) = False := by simp; omega
    have wD : IntKind.i64.wrap D = D := IntWalk.i64_in _ (by omega)
    have tD : d.tdiv g = D := (Int.tdiv_eq_ediv_of_nonneg d0).trans hD
    by_cases hlt : K < n2
    · have hbd := tm_bd h2 K0 (show K < Ev.num s2 p2 c2 by rw [N2.out]; exact hlt)
      have k7 := fun w2 => at_in s2 p2 c2 n2 K K0 hlt hbd ⟨b2.1, b2.2.1⟩ w2
      obtain ⟨T, hT⟩ : ∃ T, s2 + K * p2 = T := ⟨_, rfl⟩
      have hTb : 0 ≤ T ∧ T ≤ 506804601598 := by omega
      have k8 := fun w2 => has_any s1 p1 c1 T h1 (by omega) w2
      rw [N1.out] at k8
      have fin := fun ok hok => fin ok hok
      obtain ⟨I, hI⟩ : ∃ I, Ev.isB s1 p1 c1 T = I := ⟨_, rfl⟩
      rw [hT] at k7 fin
      rw [hI] at k8 fin
      have FIN := Lib.hid (fin I (by rw [decide_eq_true hlt]; rfl))
      clear fin hK hA hX hd hz e1 e2 e3 e4 hbd hT hI he
      cases I
      all_goals
        go_wp2_with (first
          | (go_at_call 40; with_reducible refine (k3 _).mono ?_; rintro e w4 ⟨rfl, rfl⟩))
        go_region_held3 (fun w' => w'.cell? ⟨w1.heap.size, 0, none⟩ = some (.int .i64 s2) ∧ w'.cell? ⟨w1.heap.size, 1, none⟩ = some (.int .i64 p2) ∧ w'.cell? ⟨w1.heap.size, 2, none⟩ = some (.int .i64 c2) ∧ w'.cell? ⟨w1.heap.size, 3, none⟩ = some (.int .i64 n2)) (go_keep) (first
          | (go_at_call 40; with_reducible refine (k4 _).mono ?_; rintro e w5 ⟨rfl, rfl⟩)
          | (go_at_call 40; with_reducible refine (k5 _).mono ?_; rintro e w6 ⟨rfl, rfl⟩)
          | (go_at_call 42; with_reducible refine (keep4 w1.heap.size (.int .i64 s2) (.int .i64 p2) (.int .i64 c2) (.int .i64 n2) (k6 _) ?_).mono ?_; (refine ⟨(Q.cell (p := ⟨_, 0, none⟩) (Q.refl w3).drew u4).trans u0, (Q.cell (p := ⟨_, 1, none⟩) (Q.refl w3).drew u4).trans u1, (Q.cell (p := ⟨_, 2, none⟩) (Q.refl w3).drew u4).trans u2, (Q.cell (p := ⟨_, 3, none⟩) (Q.refl w3).drew u4).trans u3, ?_⟩; (simp; omega)); rintro e w7 ⟨rfl, hq7, t0, t1, t2, t3, t4⟩; have hz7 : w2.heap.size < w7.heap.size := (by have := hq7.size; simp at this; omega); have g0 := (Q.cell (p := ⟨w2.heap.size, 0, none⟩) ((Q.refl w3).drew.trans hq7) hz3).trans v0; have gg1 := (Q.cell (p := ⟨w2.heap.size, 1, none⟩) ((Q.refl w3).drew.trans hq7) hz3).trans v1; have g2 := (Q.cell (p := ⟨w2.heap.size, 2, none⟩) ((Q.refl w3).drew.trans hq7) hz3).trans v2; have g3 := (Q.cell (p := ⟨w2.heap.size, 3, none⟩) ((Q.refl w3).drew.trans hq7) hz3).trans v3)
          | (go_at_call 41; with_reducible refine (k7 _).mono ?_; rintro e w8 ⟨rfl, hq8⟩; obtain ⟨r1, r2, r3⟩ := qcell hq8; have hz9 : w2.heap.size < w8.heap.size := (by have := hq8.size; (try simp at this); omega)))
        all_goals
          go_wp2_with (go_at_call 43; refine (k8 _).mono ?_; rintro e w9 ⟨rfl, hq9⟩)

          go_ret3
          exact ⟨⟨_, _, rfl, FIN.out.symm⟩, by repeat (first | exact Q.refl _ | assumption | refine Q.alloc ?_ _ | refine Q.drew ?_ | refine Q.drewN ?_ _ | refine Q.setCell ?_ (by first | exact Nat.le_refl _ | (simp; done) | (simp at *; omega)) _ | refine Q.trans ?_ (by assumption))⟩
    · have k7 := fun w2 => at_out s2 p2 c2 n2 K (Or.inr (by omega)) w2
      have FIN := Lib.hid (fin false (by rw [decide_eq_false hlt]; rfl))
      clear fin hK hA hX hd hz e1 e2 e3 e4 he
      go_wp2_with (first
        | (go_at_call 40; with_reducible refine (k3 _).mono ?_; rintro e w4 ⟨rfl, rfl⟩))
      go_region_held3 (fun w' => w'.cell? ⟨w1.heap.size, 0, none⟩ = some (.int .i64 s2) ∧ w'.cell? ⟨w1.heap.size, 1, none⟩ = some (.int .i64 p2) ∧ w'.cell? ⟨w1.heap.size, 2, none⟩ = some (.int .i64 c2) ∧ w'.cell? ⟨w1.heap.size, 3, none⟩ = some (.int .i64 n2)) (go_keep) (first
        | (go_at_call 40; with_reducible refine (k4 _).mono ?_; rintro e w5 ⟨rfl, rfl⟩)
        | (go_at_call 40; with_reducible refine (k5 _).mono ?_; rintro e w6 ⟨rfl, rfl⟩)
        | (go_at_call 42; with_reducible refine (keep4 w1.heap.size (.int .i64 s2) (.int .i64 p2) (.int .i64 c2) (.int .i64 n2) (k6 _) ?_).mono ?_; (refine ⟨(Q.cell (p := ⟨_, 0, none⟩) (Q.refl w3).drew u4).trans u0, (Q.cell (p := ⟨_, 1, none⟩) (Q.refl w3).drew u4).trans u1, (Q.cell (p := ⟨_, 2, none⟩) (Q.refl w3).drew u4).trans u2, (Q.cell (p := ⟨_, 3, none⟩) (Q.refl w3).drew u4).trans u3, ?_⟩; (simp; omega)); rintro e w7 ⟨rfl, hq7, t0, t1, t2, t3, t4⟩; have hz7 : w2.heap.size < w7.heap.size := (by have := hq7.size; simp at this; omega); have g0 := (Q.cell (p := ⟨w2.heap.size, 0, none⟩) ((Q.refl w3).drew.trans hq7) hz3).trans v0; have gg1 := (Q.cell (p := ⟨w2.heap.size, 1, none⟩) ((Q.refl w3).drew.trans hq7) hz3).trans v1; have g2 := (Q.cell (p := ⟨w2.heap.size, 2, none⟩) ((Q.refl w3).drew.trans hq7) hz3).trans v2; have g3 := (Q.cell (p := ⟨w2.heap.size, 3, none⟩) ((Q.refl w3).drew.trans hq7) hz3).trans v3)
        | (go_at_call 41; with_reducible refine (k7 _).mono ?_; rintro e w8 ⟨rfl, hq8⟩; obtain ⟨r1, r2, r3⟩ := qcell hq8; have hz9 : w2.heap.size < w8.heap.size := (by have := hq8.size; (try simp at this); omega)))
      all_goals
        go_wp2_with fail
        go_ret3
        exact ⟨⟨_, _, rfl, FIN.out.symm⟩, by repeat (first | exact Q.refl _ | assumption | refine Q.alloc ?_ _ | refine Q.drew ?_ | refine Q.drewN ?_ _ | refine Q.setCell ?_ (by first | exact Nat.le_refl _ | (simp; done) | (simp at *; omega)) _ | refine Q.trans ?_ (by assumption))⟩
  · have hmr := Ev.prog_none (c1 := c2) (c2 := c1) h2 h1 he hd.symm hz
    have hdb := bne_t hz
    clear hd hz hm he
    go_wp2_with (first
      | (go_at_call 40; with_reducible refine (k3 _).mono ?_; rintro e w4 ⟨rfl, rfl⟩))
    go_ret3
    exact ⟨⟨_, _, rfl, hmr.symm⟩, by repeat (first | exact Q.refl _ | assumption | refine Q.alloc ?_ _ | refine Q.drew ?_ | refine Q.drewN ?_ _ | refine Q.setCell ?_ (by first | exact Nat.le_refl _ | (simp; done) | (simp at *; omega)) _ | refine Q.trans ?_ (by assumption))⟩
end Go.Proofs.Ytfhplhfgcanfbaa
