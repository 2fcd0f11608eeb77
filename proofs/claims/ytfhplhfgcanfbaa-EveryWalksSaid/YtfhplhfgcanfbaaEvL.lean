/- The contracts of the document's euclid and times, and of both Meets on schedules that are not valid. -/
import Derived.Test.YtfhplhfgcanfbaaEvJ
import Derived.Test.YtfhplhfgcanfbaaEvF
namespace Go.Proofs.Ytfhplhfgcanfbaa
open Go.RowKit
set_option linter.unusedVariables false
set_option linter.unusedSimpArgs false
theorem meet_bad1 (s1 p1 c1 s2 p2 c2 : Int) (h1 : ¬ Ev.Ok s1 p1 c1) (w : World) :
    Calls Try.prog 17 #[.agg #[.int .i64 s1, .int .i64 p1, .int .i64 c1], .agg #[.int .i64 s2, .int .i64 p2, .int .i64 c2]] w fun e w' => e = .returned (.tuple #[.int .i64 0, .bool false, .int .i64 16]) ∧ Q w w' := by
  have k1 := fun w2 => of_bad s1 p1 c1 (.slice none 0 0) h1 w2
  by_cases h2 : Ev.Ok s2 p2 c2
  · have k2 := fun w2 => of_none s2 p2 c2 h2 w2
    by_cases heq : s1 = s2 ∧ p1 = p2 ∧ c1 = c2
    · obtain ⟨rfl, rfl, rfl⟩ := heq; exact absurd h2 h1
    clear h1 h2 heq
    go_enter Try.func17, Try.ntmps17
    go_wp2_with (first
      | (go_at_call 34; with_reducible refine (k1 _).mono ?_; rintro e w1 ⟨rfl, hq1⟩; obtain ⟨x1, x2, x3⟩ := qcell hq1; have hz1 : w.heap.size + 1 < w1.heap.size := (by have := hq1.size; simp at this; omega))
      | (go_at_call 34; with_reducible refine (k2 _).mono ?_; rintro e w2 ⟨rfl, hq2⟩; obtain ⟨y1, y2, y3⟩ := qcell hq2))
    go_ret3
    exact ⟨rfl, by repeat (first | exact Q.refl _ | assumption | refine Q.alloc ?_ _ | refine Q.drew ?_ | refine Q.drewN ?_ _ | refine Q.trans ?_ (by assumption))⟩
  · have k2 := fun w2 => of_bad s2 p2 c2 (.slice none 0 0) h2 w2
    clear h1 h2
    go_enter Try.func17, Try.ntmps17
    go_wp2_with (first
      | (go_at_call 34; with_reducible refine (k1 _).mono ?_; rintro e w1 ⟨rfl, hq1⟩; obtain ⟨x1, x2, x3⟩ := qcell hq1; have hz1 : w.heap.size + 1 < w1.heap.size := (by have := hq1.size; simp at this; omega))
      | (go_at_call 34; with_reducible refine (k2 _).mono ?_; rintro e w2 ⟨rfl, hq2⟩; obtain ⟨y1, y2, y3⟩ := qcell hq2))
    go_ret3
    exact ⟨rfl, by repeat (first | exact Q.refl _ | assumption | refine Q.alloc ?_ _ | refine Q.drew ?_ | refine Q.drewN ?_ _ | refine Q.trans ?_ (by assumption))⟩
theorem meet_bad2 (s1 p1 c1 s2 p2 c2 : Int) (h1 : Ev.Ok s1 p1 c1) (h2 : ¬ Ev.Ok s2 p2 c2) (w : World) :
    Calls Try.prog 17 #[.agg #[.int .i64 s1, .int .i64 p1, .int .i64 c1], .agg #[.int .i64 s2, .int .i64 p2, .int .i64 c2]] w fun e w' => e = .returned (.tuple #[.int .i64 0, .bool false, .int .i64 16]) ∧ Q w w' := by
  have k1 := fun w2 => of_none s1 p1 c1 h1 w2
  have k2 := fun w2 => of_bad s2 p2 c2 (.slice none 0 0) h2 w2
  clear h1 h2
  go_enter Try.func17, Try.ntmps17
  go_wp2_with (first
    | (go_at_call 34; with_reducible refine (k1 _).mono ?_; rintro e w1 ⟨rfl, hq1⟩; obtain ⟨x1, x2, x3⟩ := qcell hq1; have hz1 : w.heap.size + 1 < w1.heap.size := (by have := hq1.size; simp at this; omega))
    | (go_at_call 34; with_reducible refine (k2 _).mono ?_; rintro e w2 ⟨rfl, hq2⟩; obtain ⟨y1, y2, y3⟩ := qcell hq2))
  go_ret3
  exact ⟨rfl, by repeat (first | exact Q.refl _ | assumption | refine Q.alloc ?_ _ | refine Q.drew ?_ | refine Q.drewN ?_ _ | refine Q.trans ?_ (by assumption))⟩
theorem rmeet_bad1 (s1 p1 c1 s2 p2 c2 : Int) (h1 : ¬ Ev.Ok s1 p1 c1) (w : World) :
    Calls Try.prog 18 #[.agg #[.int .i64 s1, .int .i64 p1, .int .i64 c1], .agg #[.int .i64 s2, .int .i64 p2, .int .i64 c2]] w fun e w' => e = .returned (.tuple #[.int .i64 0, .bool false, .int .i64 16]) ∧ Q w w' := by
  have k1 := fun w2 => rcheck_bad s1 p1 c1 h1 w2
  clear h1
  go_enter Try.func18, Try.ntmps18
  go_wp2_with (first
    | (go_at_call 33; with_reducible refine (k1 _).mono ?_; rintro e w1 ⟨rfl, hq1⟩; obtain ⟨x1, x2, x3⟩ := qcell hq1))
  go_ret3
  exact ⟨rfl, by repeat (first | exact Q.refl _ | assumption | refine Q.alloc ?_ _ | refine Q.drew ?_ | refine Q.drewN ?_ _ | refine Q.trans ?_ (by assumption))⟩
theorem rmeet_bad2 (s1 p1 c1 s2 p2 c2 : Int) (h1 : Ev.Ok s1 p1 c1) (h2 : ¬ Ev.Ok s2 p2 c2) (w : World) :
    Calls Try.prog 18 #[.agg #[.int .i64 s1, .int .i64 p1, .int .i64 c1], .agg #[.int .i64 s2, .int .i64 p2, .int .i64 c2]] w fun e w' => e = .returned (.tuple #[.int .i64 0, .bool false, .int .i64 16]) ∧ Q w w' := by
  have k1 := fun w2 => rcheck_ok s1 p1 c1 h1 w2
  have k2 := fun w2 => rcheck_bad s2 p2 c2 h2 w2
  clear h1 h2
  go_enter Try.func18, Try.ntmps18
  go_wp2_with (first
    | (go_at_call 33; with_reducible refine (k1 _).mono ?_; rintro e w1 ⟨rfl, hq1⟩; obtain ⟨x1, x2, x3⟩ := qcell hq1)
    | (go_at_call 33; with_reducible refine (k2 _).mono ?_; rintro e w2 ⟨rfl, hq2⟩))
  go_ret3
  exact ⟨rfl, by repeat (first | exact Q.refl _ | assumption | refine Q.alloc ?_ _ | refine Q.drew ?_ | refine Q.drewN ?_ _ | refine Q.trans ?_ (by assumption))⟩
/-- Euclid's answer -/
def EuPost (a b : Int) (w : World) (e : Ending) (w' : World) : Prop := (∃ g x y : Int, e = .returned (.tuple #[.int .i64 g, .int .i64 x, .int .i64 y]) ∧ Ev.EuR a b g x y ∧ g ≤ 68719476736) ∧ ∃ n, w' = w.drewN n
theorem euclid_any (k : Nat) : ∀ (a b : Int) (w : World), 1 ≤ a → a ≤ 68719476736 → 0 ≤ b → b ≤ 68719476736 → b.toNat ≤ k →
    Calls Try.prog 44 #[.int .i64 a, .int .i64 b] w (EuPost a b w) := by
  induction k with
  | zero =>
    intro a b w ha1 ha2 hb1 hb2 hk
    obtain rfl : b = 0 := by omega
    have hz := Ev.euR_zero ha1
    go_enter Try.func44, Try.ntmps44
    go_wp2_with fail
    go_ret3
    exact ⟨⟨_, _, _, rfl, hz, by omega⟩, 0, rfl⟩
  | succ k ih =>
    intro a b w ha1 ha2 hb1 hb2 hk
    by_cases hb : b = 0
    · subst hb
      have hz := Ev.euR_zero ha1
      go_enter Try.func44, Try.ntmps44
      go_wp2_with fail
      go_ret3
      exact ⟨⟨_, _, _, rfl, hz, by omega⟩, 0, rfl⟩
    · have r0 := Int.emod_nonneg a (show b ≠ 0 by omega)
      have r1 := Int.emod_lt_of_pos a (show 0 < b by omega)
      have ih' := fun w2 => ih b (a % b) w2 (by omega) hb2 r0 (by omega) (by omega)
      have hbe := beq_f hb
      obtain ⟨R, hR⟩ : ∃ R, a % b = R := ⟨_, rfl⟩
      rw [hR] at ih' r0 r1
      clear ih
      go_enter Try.func44, Try.ntmps44
      go_wp2_with fail
      refine (ih' _).mono ?_
      rintro e w1 ⟨⟨g, x, y, rfl, he, hg⟩, n, hw1⟩
      have st := Ev.euR_step (a := a) (by omega) (show 1 ≤ b by omega) (by rw [hR]; exact he)
      obtain ⟨q, hq⟩ : ∃ q, a / b = q := ⟨_, rfl⟩
      obtain ⟨P, hP⟩ : ∃ P, q * y = P := ⟨_, rfl⟩
      have q0 : 0 ≤ q := by rw [← hq]; exact Int.ediv_nonneg (by omega) (by omega)
      have q1 : q ≤ a := by rw [← hq]; exact Int.ediv_le_self _ (by omega)
      rw [hq, hP] at st
      obtain ⟨st1, st2, st3⟩ := st
      have hxy := st1
      unfold Ev.EuR at hxy he
      have yb : -68719476737 ≤ y ∧ y ≤ 68719476737 := by omega
      have xb : -68719476737 ≤ x ∧ x ≤ 68719476737 := by omega
      have tq : a.tdiv b = q := (Int.tdiv_eq_ediv_of_nonneg (by omega)).trans hq
      have bz : (b = 0) = False := by simp; omega
      have w1q : IntKind.i64.wrap q = q := IntWalk.i64_in _ (by omega)
      have w1P : IntKind.i64.wrap P = P := IntWalk.i64_in _ (by omega)
      have w1x : IntKind.i64.wrap (x - P) = x - P := IntWalk.i64_in _ (by omega)
      clear hxy he
      go_wp2_with fail
      go_quiet (fail)
      go_wp2_with fail
      go_ret3
      subst hw1
      exact ⟨⟨_, _, _, rfl, st1, hg⟩, _, (World.drewN_drewN ..)⟩
theorem times_any (A B m : Int) (ha : 0 ≤ A ∧ A < m) (hb : 0 ≤ B ∧ B < m) (hm : m ≤ 68719476736) (w : World) :
    Calls Try.prog 45 #[.int .i64 A, .int .i64 B, .int .i64 m] w fun e w' => e = .returned (.int .i64 (A * B % m)) ∧ w = w' := by
  obtain ⟨P, hP⟩ : ∃ P, A * B % m = P := ⟨_, rfl⟩
  have h0 : (0 + A * B) % m = P := by rw [Int.zero_add]; exact hP
  rw [hP]
  clear hP
  go_enter Try.func45, Try.ntmps45
  go_wp2
  go_loop [0, 1, 7] (fun a b o => ∃ a' b' o' : Int, (o' + a' * b') % m = P ∧ 0 ≤ a' ∧ a' < m ∧ 0 ≤ b' ∧ b' < m ∧ 0 ≤ o' ∧ o' < m ∧ a = .int .i64 a' ∧ b = .int .i64 b' ∧ o = .int .i64 o') (fun _ b _ => (intOf b).toNat)
  case atStart => exact ⟨A, B, 0, h0, ha.1, ha.2, hb.1, hb.2, by omega, by omega, rfl, rfl, rfl⟩
  case round =>
    obtain ⟨a, b, o, hi, a0, a1, b0, b1, o0, o1, rfl, rfl, rfl⟩ := hrel
    clear h0
    have HI := Lib.hid hi
    by_cases hz : b = 0
    · subst hz
      clear hi
      go_wp2
      go_ret
      exact ⟨ret_int (by have := HI.out; rw [Int.mul_zero, Int.add_zero, Int.emod_eq_of_lt o0 o1] at this; exact this), rfl⟩
    · have hpos : 0 < b := by omega
      have e1 := Int.emod_nonneg (2 * a) (show m ≠ 0 by omega)
      have e2 := Int.emod_lt_of_pos (2 * a) (show 0 < m by omega)
      by_cases ho : b % 2 = 1
      · have st := Ev.dbl_odd (by omega) hi ho
        have f1 := Int.emod_nonneg (o + a) (show m ≠ 0 by omega)
        have f2 := Int.emod_lt_of_pos (o + a) (show 0 < m by omega)
        have ST := Lib.hid st
        clear hi st
        have hob := beq_t ho
        go_wp2
        go_round
        case rel => exact ⟨2 * a % m, b / 2, (o + a) % m, ST.out, e1, e2, by omega, by omega, f1, f2, rfl, rfl, rfl⟩
        case measure => simp [intOf]; omega
      · have st := Ev.dbl_even (by omega) hi (by omega)
        have ST := Lib.hid st
        clear hi st
        have hob := beq_f ho
        go_wp2
        go_round
        case rel => exact ⟨2 * a % m, b / 2, o, ST.out, e1, e2, by omega, by omega, o0, o1, rfl, rfl, rfl⟩
        case measure => simp [intOf]; omega
end Go.Proofs.Ytfhplhfgcanfbaa
