/- The contracts of misfire's Check, Count and rules, and of the document's. -/
import Derived.Test.YtadfdkhgjjehnaaDoorBase
namespace Go.Proofs.YtadfdkhgjjehnaaDoor
open Go.RowKit
set_option linter.unusedVariables false
set_option linter.unusedSimpArgs false
theorem rcheck_any (p k : Int) (w : World) : Calls Tryd.prog 20 #[.int .i64 p, .int .i64 k] w fun e w' => e = .returned (.int .i64 (Mf.chkE p k)) ∧ w = w' := by
  unfold Mf.chkE
  by_cases h : (0 ≤ p ∧ p ≤ 2 ∧ k = 0) ∨ (p = 3 ∧ 1 ≤ k ∧ k ≤ 100)
  · rw [if_pos h]
    rcases h with ⟨h1, h2, rfl⟩ | ⟨rfl, h1, h2⟩
    · go_enter Tryd.func20, Tryd.ntmps20
      go_wp2
      go_ret
      exact ⟨rfl, rfl⟩
    · go_enter Tryd.func20, Tryd.ntmps20
      go_wp2
      go_ret
      exact ⟨rfl, rfl⟩
  · rw [if_neg h]
    by_cases h1 : p < 0
    · have y1 : decide (0 ≤ p) = false := by simp; omega
      have y2 : (p == 3) = false := beq_f (by omega)
      clear h
      go_enter Tryd.func20, Tryd.ntmps20
      go_wp2
      go_ret
      exact ⟨rfl, rfl⟩
    by_cases h2 : p ≤ 2
    · have y1 : (k == 0) = false := beq_f (by omega)
      have y2 : (p == 3) = false := beq_f (by omega)
      have h3 : 0 ≤ p := by omega
      clear h h1
      go_enter Tryd.func20, Tryd.ntmps20
      go_wp2
      go_ret
      exact ⟨rfl, rfl⟩
    by_cases h4 : p = 3
    · subst h4
      by_cases h5 : 1 ≤ k
      · have h6 : 100 < k := by omega
        clear h h1 h2
        go_enter Tryd.func20, Tryd.ntmps20
        go_wp2
        go_ret
        exact ⟨rfl, rfl⟩
      · have h6 : k < 1 := by omega
        have y1 : decide (1 ≤ k) = false := by simp; omega
        clear h h1 h2 h5
        go_enter Tryd.func20, Tryd.ntmps20
        go_wp2
        go_ret
        exact ⟨rfl, rfl⟩
    · have h6 : 3 < p := by omega
      have y1 : decide (p ≤ 2) = false := by simp; omega
      have y2 : (p == 3) = false := beq_f (by omega)
      have y3 : decide (0 ≤ p) = true := by simp; omega
      clear h h1 h2 h4
      go_enter Tryd.func20, Tryd.ntmps20
      go_wp2
      go_ret
      exact ⟨rfl, rfl⟩
/-- the table of the rules -/
def RT (B : Nat) (w : World) : Prop := B < w.heap.size ∧ w.cell? ⟨B, 0, none⟩ = some (.string ⟨#[100, 114, 111, 112]⟩) ∧ w.cell? ⟨B, 1, none⟩ = some (.func (.func 45) #[] #[]) ∧ w.cell? ⟨B, 2, none⟩ = some (.string ⟨#[108, 97, 115, 116]⟩) ∧ w.cell? ⟨B, 3, none⟩ = some (.func (.func 46) #[] #[]) ∧ w.cell? ⟨B, 4, none⟩ = some (.string ⟨#[97, 108, 108]⟩) ∧ w.cell? ⟨B, 5, none⟩ = some (.func (.func 47) #[] #[]) ∧ w.cell? ⟨B, 6, none⟩ = some (.string ⟨#[115, 111, 109, 101, 58]⟩) ∧ w.cell? ⟨B, 7, none⟩ = some (.func (.func 48) #[] #[])
theorem rules_any (w : World) : Calls Tryd.prog 37 #[] w fun e w' => ∃ B : Nat, e = .returned (.slice (some ⟨B, 0, none⟩) 4 4) ∧ Q w w' ∧ RT B w' := by
  go_enter Tryd.func37, Tryd.ntmps37
  go_wp2
  go_ret
  exact ⟨_, rfl, (Q.refl _).alloc _, by unfold RT; simp⟩
theorem check_any (p k : Int) (w : World) : Calls Tryd.prog 19 #[.int .i64 p, .int .i64 k] w fun e w' => e = .returned (.int .i64 (Mf.chkE p k)) ∧ Q w w' := by
  unfold Mf.chkE
  have hgi : goInt 4 = .int .i64 4 := by simp [goInt]
  by_cases h : (0 ≤ p ∧ p ≤ 2 ∧ k = 0) ∨ (p = 3 ∧ 1 ≤ k ∧ k ≤ 100)
  · rw [if_pos h]
    rcases h with ⟨h1, h2, rfl⟩ | ⟨rfl, h1, h2⟩
    · have y1 : decide (4 ≤ p) = false := by simp; omega
      have y2 : (p == 3) = false := beq_f (by omega)
      have y3 : (p != 3) = true := bne_t (by omega)
      go_enter Tryd.func19, Tryd.ntmps19
      go_wp2_with (go_at_call 37; refine (rules_any _).mono ?_; rintro e w1 ⟨B, rfl, hq1, hr⟩)
      go_ret
      exact ⟨rfl, by repeat (first | exact Q.refl _ | assumption | refine Q.alloc ?_ _ | refine Q.drew ?_ | refine Q.drewN ?_ _ | refine Q.trans ?_ (by assumption))⟩
    · have y1 : decide (1 ≤ k) = true := by simp; omega
      go_enter Tryd.func19, Tryd.ntmps19
      go_wp2_with (go_at_call 37; refine (rules_any _).mono ?_; rintro e w1 ⟨B, rfl, hq1, hr⟩)
      go_ret
      exact ⟨rfl, by repeat (first | exact Q.refl _ | assumption | refine Q.alloc ?_ _ | refine Q.drew ?_ | refine Q.drewN ?_ _ | refine Q.trans ?_ (by assumption))⟩
  · rw [if_neg h]
    by_cases h1 : p < 0
    · clear h
      go_enter Tryd.func19, Tryd.ntmps19
      go_wp2_with (go_at_call 37; refine (rules_any _).mono ?_; rintro e w1 ⟨B, rfl, hq1, hr⟩)
      go_ret
      exact ⟨rfl, by repeat (first | exact Q.refl _ | assumption | refine Q.alloc ?_ _ | refine Q.drew ?_ | refine Q.drewN ?_ _ | refine Q.trans ?_ (by assumption))⟩
    by_cases h2 : p ≤ 2
    · have y1 : (k == 0) = false := beq_f (by omega)
      have y2 : (p == 3) = false := beq_f (by omega)
      have y3 : (p != 3) = true := bne_t (by omega)
      have y4 : decide (4 ≤ p) = false := by simp; omega
      have h3 : 0 ≤ p := by omega
      clear h h1
      go_enter Tryd.func19, Tryd.ntmps19
      go_wp2_with (go_at_call 37; refine (rules_any _).mono ?_; rintro e w1 ⟨B, rfl, hq1, hr⟩)
      go_ret
      exact ⟨rfl, by repeat (first | exact Q.refl _ | assumption | refine Q.alloc ?_ _ | refine Q.drew ?_ | refine Q.drewN ?_ _ | refine Q.trans ?_ (by assumption))⟩
    by_cases h4 : p = 3
    · subst h4
      by_cases h5 : 1 ≤ k
      · have h6 : 100 < k := by omega
        have y1 : decide (1 ≤ k) = true := by simp; omega
        have y2 : decide (k ≤ 100) = false := by simp; omega
        clear h h1 h2
        go_enter Tryd.func19, Tryd.ntmps19
        go_wp2_with (go_at_call 37; refine (rules_any _).mono ?_; rintro e w1 ⟨B, rfl, hq1, hr⟩)
        go_ret
        exact ⟨rfl, by repeat (first | exact Q.refl _ | assumption | refine Q.alloc ?_ _ | refine Q.drew ?_ | refine Q.drewN ?_ _ | refine Q.trans ?_ (by assumption))⟩
      · have h6 : k < 1 := by omega
        have y1 : decide (1 ≤ k) = false := by simp; omega
        clear h h1 h2 h5
        go_enter Tryd.func19, Tryd.ntmps19
        go_wp2_with (go_at_call 37; refine (rules_any _).mono ?_; rintro e w1 ⟨B, rfl, hq1, hr⟩)
        go_ret
        exact ⟨rfl, by repeat (first | exact Q.refl _ | assumption | refine Q.alloc ?_ _ | refine Q.drew ?_ | refine Q.drewN ?_ _ | refine Q.trans ?_ (by assumption))⟩
    · have h6 : 4 ≤ p := by omega
      have y1 : decide (4 ≤ p) = true := by simp; omega
      have y3 : 0 ≤ p := by omega
      clear h h1 h2 h4
      go_enter Tryd.func19, Tryd.ntmps19
      go_wp2_with (go_at_call 37; refine (rules_any _).mono ?_; rintro e w1 ⟨B, rfl, hq1, hr⟩)
      go_ret
      exact ⟨rfl, by repeat (first | exact Q.refl _ | assumption | refine Q.alloc ?_ _ | refine Q.drew ?_ | refine Q.drewN ?_ _ | refine Q.trans ?_ (by assumption))⟩
theorem rkept_any (p k n : Int) (w : World) : Calls Tryd.prog 36 #[.int .i64 p, .int .i64 k, .int .i64 n] w fun e w' => e = .returned (.int .i64 (Mf.kept p k n)) ∧ w = w' := by
  unfold Mf.kept
  by_cases h0 : p = 0
  · subst h0
    go_enter Tryd.func36, Tryd.ntmps36
    go_wp2
    go_ret
    exact ⟨rfl, rfl⟩
  have y0 : (p == 0) = false := beq_f h0
  rw [if_neg h0]
  by_cases h1 : p = 1
  · subst h1
    clear h0
    go_enter Tryd.func36, Tryd.ntmps36
    go_wp2
    all_goals
      go_ret
      exact ⟨ret_int (by omega), rfl⟩
  have y1 : (p == 1) = false := beq_f h1
  rw [if_neg h1]
  by_cases h2 : p = 2
  · subst h2
    clear h0 h1
    go_enter Tryd.func36, Tryd.ntmps36
    go_wp2
    go_ret
    exact ⟨rfl, rfl⟩
  have y2 : (p == 2) = false := beq_f h2
  rw [if_neg h2]
  clear h0 h1 h2
  go_enter Tryd.func36, Tryd.ntmps36
  go_wp2
  all_goals
    go_ret
    exact ⟨ret_int (by omega), rfl⟩
theorem chk_cases {p k : Int} (h : Mf.chkE p k = 0) : (p = 0 ∧ k = 0) ∨ (p = 1 ∧ k = 0) ∨ (p = 2 ∧ k = 0) ∨ (p = 3 ∧ 1 ≤ k ∧ k ≤ 100) := by
  unfold Mf.chkE at h
  split at h <;> omega
theorem chk_vals (p k : Int) : Mf.chkE p k = 0 ∨ Mf.chkE p k = 2 := by
  unfold Mf.chkE; split <;> simp
/-- what Count answers -/
def cntE (p k n : Int) : Int := if Mf.chkE p k = 0 ∧ 0 ≤ n then 0 else 2
def cntM (p k n : Int) : Int := if Mf.chkE p k = 0 ∧ 0 ≤ n then Mf.kept p k n else 0
def cntD (p k n : Int) : Int := if Mf.chkE p k = 0 ∧ 0 ≤ n then n - Mf.kept p k n else 0
theorem kept_bd {p k n : Int} (h : Mf.chkE p k = 0) (hn : 0 ≤ n) : 0 ≤ Mf.kept p k n ∧ Mf.kept p k n ≤ n := by
  unfold Mf.kept
  rcases chk_cases h with ⟨rfl, rfl⟩ | ⟨rfl, rfl⟩ | ⟨rfl, rfl⟩ | ⟨rfl, h1, h2⟩ <;> simp <;> omega
theorem k0_any (a b : Int) (w : World) : Calls Tryd.prog 45 #[.int .i64 a, .int .i64 b] w fun e w' => e = .returned (.int .i64 0) ∧ w = w' := by
  go_enter Tryd.func45, Tryd.ntmps45
  go_wp2
  go_ret
  exact ⟨rfl, rfl⟩
theorem k1_any (a b : Int) (w : World) : Calls Tryd.prog 46 #[.int .i64 a, .int .i64 b] w fun e w' => e = .returned (.int .i64 (min b 1)) ∧ w = w' := by
  go_enter Tryd.func46, Tryd.ntmps46
  go_wp2
  all_goals
    go_ret
    exact ⟨ret_int (by omega), rfl⟩
theorem k2_any (a b : Int) (w : World) : Calls Tryd.prog 47 #[.int .i64 a, .int .i64 b] w fun e w' => e = .returned (.int .i64 b) ∧ w = w' := by
  go_enter Tryd.func47, Tryd.ntmps47
  go_wp2
  go_ret
  exact ⟨rfl, rfl⟩
theorem k3_any (a b : Int) (w : World) : Calls Tryd.prog 48 #[.int .i64 a, .int .i64 b] w fun e w' => e = .returned (.int .i64 (min b a)) ∧ w = w' := by
  go_enter Tryd.func48, Tryd.ntmps48
  go_wp2
  all_goals
    go_ret
    exact ⟨ret_int (by omega), rfl⟩
theorem count_any (p k n : Int) (hn : n ≤ 9223372036854775807) (w : World) : Calls Tryd.prog 17 #[.int .i64 p, .int .i64 k, .int .i64 n] w fun e w' => e = .returned (.tuple #[.int .i64 (cntM p k n), .int .i64 (cntD p k n), .int .i64 (cntE p k n)]) ∧ Q w w' := by
  unfold cntM cntD cntE
  have kc := fun w2 => check_any p k w2
  rcases chk_vals p k with h | h
  · rw [h] at kc
    by_cases h0 : 0 ≤ n
    · have kb := kept_bd h h0
      rw [if_pos ⟨h, h0⟩, if_pos ⟨h, h0⟩, if_pos ⟨h, h0⟩]
      have kk := chk_cases h
      clear h
      rcases kk with ⟨rfl, rfl⟩ | ⟨rfl, rfl⟩ | ⟨rfl, rfl⟩ | ⟨rfl, h1, h2⟩
      all_goals
        first
          | rw [show Mf.kept 0 0 n = 0 from rfl] at kb ⊢
          | rw [show Mf.kept 1 0 n = min n 1 from rfl] at kb ⊢
          | rw [show Mf.kept 2 0 n = n from rfl] at kb ⊢
          | rw [show Mf.kept 3 k n = min n k from rfl] at kb ⊢
        try (obtain ⟨m, hm⟩ : ∃ m, min n 1 = m := ⟨_, rfl⟩
             have k1 := fun w2 => k1_any 0 n w2
             rw [hm] at kb k1 ⊢
             clear hm)
        try (obtain ⟨m, hm⟩ : ∃ m, min n k = m := ⟨_, rfl⟩
             have k3 := fun w2 => k3_any k n w2
             rw [hm] at kb k3 ⊢
             clear hm)
        go_enter Tryd.func17, Tryd.ntmps17
        go_wp2_with (first
          | (go_at_call 19; refine (kc _).mono ?_; rintro e w1 ⟨rfl, hq1⟩)
          | (go_at_call 37; refine (rules_any _).mono ?_; rintro e w2 ⟨B, rfl, hq2, ⟨r0, r1, r2, r3, r4, r5, r6, r7, r8⟩⟩)
          | (go_at_call 45; refine (k0_any _ _ _).mono ?_; rintro e w3 ⟨rfl, rfl⟩)
          | (go_at_call 46; refine (k1 _).mono ?_; rintro e w3 ⟨rfl, rfl⟩)
          | (go_at_call 47; refine (k2_any _ _ _).mono ?_; rintro e w3 ⟨rfl, rfl⟩)
          | (go_at_call 48; refine (k3 _).mono ?_; rintro e w3 ⟨rfl, rfl⟩))
        first
          | (refine bodyPost_ret (v := .tuple #[.int .i64 m, .int .i64 (n - m), .int .i64 0]) ?_ rfl ⟨?_, ?_⟩
             · simp [results, Tryd.results17, go_sem]
             · simp
             · repeat (first | exact Q.refl _ | assumption | refine Q.alloc ?_ _ | refine Q.drew ?_ | refine Q.drewN ?_ _ | refine Q.trans ?_ (by assumption)))
          | (refine bodyPost_ret (v := .tuple #[.int .i64 0, .int .i64 n, .int .i64 0]) ?_ rfl ⟨?_, ?_⟩
             · simp [results, Tryd.results17, go_sem]
             · simp
             · repeat (first | exact Q.refl _ | assumption | refine Q.alloc ?_ _ | refine Q.drew ?_ | refine Q.drewN ?_ _ | refine Q.trans ?_ (by assumption)))
          | (refine bodyPost_ret (v := .tuple #[.int .i64 n, .int .i64 0, .int .i64 0]) ?_ rfl ⟨?_, ?_⟩
             · simp [results, Tryd.results17, go_sem]
             · simp
             · repeat (first | exact Q.refl _ | assumption | refine Q.alloc ?_ _ | refine Q.drew ?_ | refine Q.drewN ?_ _ | refine Q.trans ?_ (by assumption)))
    · rw [if_neg (by omega), if_neg (by omega), if_neg (by omega)]
      have h2 : n < 0 := by omega
      clear h0 h
      go_enter Tryd.func17, Tryd.ntmps17
      go_wp2_with (go_at_call 19; refine (kc _).mono ?_; rintro e w1 ⟨rfl, hq1⟩)
      exact bodyPost_ret (v := .tuple #[.int .i64 0, .int .i64 0, .int .i64 2]) (by simp [results, Tryd.results17, go_sem]) rfl ⟨rfl, by repeat (first | exact Q.refl _ | assumption | refine Q.alloc ?_ _ | refine Q.drew ?_ | refine Q.drewN ?_ _ | refine Q.trans ?_ (by assumption))⟩
  · rw [h] at kc
    rw [if_neg (by omega), if_neg (by omega), if_neg (by omega)]
    clear h
    go_enter Tryd.func17, Tryd.ntmps17
    go_wp2_with (go_at_call 19; refine (kc _).mono ?_; rintro e w1 ⟨rfl, hq1⟩)
    exact bodyPost_ret (v := .tuple #[.int .i64 0, .int .i64 0, .int .i64 2]) (by simp [results, Tryd.results17, go_sem]) rfl ⟨rfl, by repeat (first | exact Q.refl _ | assumption | refine Q.alloc ?_ _ | refine Q.drew ?_ | refine Q.drewN ?_ _ | refine Q.trans ?_ (by assumption))⟩
theorem rcount_any (p k n : Int) (hn : n ≤ 9223372036854775807) (w : World) : Calls Tryd.prog 18 #[.int .i64 p, .int .i64 k, .int .i64 n] w fun e w' => e = .returned (.tuple #[.int .i64 (cntM p k n), .int .i64 (cntD p k n), .int .i64 (cntE p k n)]) ∧ w = w' := by
  unfold cntM cntD cntE
  have kc := fun w2 => rcheck_any p k w2
  rcases chk_vals p k with h | h
  · rw [h] at kc
    by_cases h0 : 0 ≤ n
    · have kb := kept_bd h h0
      rw [if_pos ⟨h, h0⟩, if_pos ⟨h, h0⟩, if_pos ⟨h, h0⟩]
      have kk := fun w2 => rkept_any p k n w2
      obtain ⟨m, hm⟩ : ∃ m, Mf.kept p k n = m := ⟨_, rfl⟩
      rw [hm] at kb kk ⊢
      clear h hm
      go_enter Tryd.func18, Tryd.ntmps18
      go_wp2_with (first
        | (go_at_call 20; refine (kc _).mono ?_; rintro e w1 ⟨rfl, rfl⟩)
        | (go_at_call 36; refine (kk _).mono ?_; rintro e w1 ⟨rfl, rfl⟩))
      exact bodyPost_ret (v := .tuple #[.int .i64 m, .int .i64 (n - m), .int .i64 0]) (by simp [results, Tryd.results18, go_sem]) rfl ⟨rfl, rfl⟩
    · rw [if_neg (by omega), if_neg (by omega), if_neg (by omega)]
      have h2 : n < 0 := by omega
      clear h0 h
      go_enter Tryd.func18, Tryd.ntmps18
      go_wp2_with (go_at_call 20; refine (kc _).mono ?_; rintro e w1 ⟨rfl, rfl⟩)
      exact bodyPost_ret (v := .tuple #[.int .i64 0, .int .i64 0, .int .i64 2]) (by simp [results, Tryd.results18, go_sem]) rfl ⟨rfl, rfl⟩
  · rw [h] at kc
    rw [if_neg (by omega), if_neg (by omega), if_neg (by omega)]
    clear h
    go_enter Tryd.func18, Tryd.ntmps18
    go_wp2_with (go_at_call 20; refine (kc _).mono ?_; rintro e w1 ⟨rfl, rfl⟩)
    exact bodyPost_ret (v := .tuple #[.int .i64 0, .int .i64 0, .int .i64 2]) (by simp [results, Tryd.results18, go_sem]) rfl ⟨rfl, rfl⟩
end Go.Proofs.YtadfdkhgjjehnaaDoor
