/- Plain facts on schedules with a fixed period: their times, how many there are, how many come before a time. No program in sight. -/
namespace Ev
def MT : Int := 253402300799
def Ok (s p c : Int) : Prop := 0 ≤ s ∧ s ≤ 253402300799 ∧ 1 ≤ p ∧ p ≤ 68719476736 ∧ 0 ≤ c ∧ c ≤ 1000000
instance (s p c : Int) : Decidable (Ok s p c) := by unfold Ok; infer_instance
def TOk (t : Int) : Prop := 0 ≤ t ∧ t ≤ 253402300799
instance (t : Int) : Decidable (TOk t) := by unfold TOk; infer_instance
/-- how many times there are -/
def num (s p c : Int) : Int := if 0 < c ∧ c < 1 + (253402300799 - s) / p then c else 1 + (253402300799 - s) / p
/-- how many times come before t -/
def bef (s p c t : Int) : Int := if t ≤ s then 0 else if num s p c < (t - s - 1) / p + 1 then num s p c else (t - s - 1) / p + 1
/-- t is one of the times -/
def isB (s p c t : Int) : Bool := decide (s ≤ t ∧ (t - s) % p = 0 ∧ (t - s) / p < num s p c)
theorem num_pos {s p c : Int} (h : Ok s p c) : 1 ≤ num s p c := by
  obtain ⟨h1, h2, h3, h4, h5, h6⟩ := h
  have : 0 ≤ (253402300799 - s) / p := Int.ediv_nonneg (by omega) (by omega)
  unfold num; split <;> omega
theorem num_le {s p c : Int} : num s p c ≤ 1 + (253402300799 - s) / p := by
  unfold num; split <;> omega
theorem tm_le {s p c n : Int} (h : Ok s p c) (hn : n < num s p c) : s + n * p ≤ 253402300799 := by
  have := @num_le s p c
  have h1 : n ≤ (253402300799 - s) / p := by omega
  have h2 : n * p ≤ 253402300799 - s := (Int.le_ediv_iff_mul_le (by have := h.2.2.1; omega)).1 h1
  omega
theorem tm_mono {p n m : Int} (hp : 1 ≤ p) (h : n ≤ m) : n * p ≤ m * p := Int.mul_le_mul_of_nonneg_right h (by omega)
theorem tm_lt {p n m : Int} (hp : 1 ≤ p) : n * p < m * p ↔ n < m := by
  constructor
  · intro h
    by_cases hc : n < m
    · exact hc
    · have := tm_mono hp (show m ≤ n by omega); omega
  · intro h
    have := tm_mono hp (show n + 1 ≤ m by omega)
    rw [Int.add_mul] at this; omega
theorem tm_inj {p n m : Int} (hp : 1 ≤ p) (h : n * p = m * p) : n = m := by
  have a := @tm_lt p n m hp; have b := @tm_lt p m n hp; omega
theorem tm_nonneg {p n : Int} (hp : 1 ≤ p) (h : 0 ≤ n) : 0 ≤ n * p := by
  have := tm_mono hp h; simpa using this
theorem num_max {s p c : Int} (h : Ok s p c) : num s p c ≤ 253402300800 := by
  have a := tm_le (n := num s p c - 1) h (by omega)
  have b := num_pos h
  obtain ⟨h1, h2, h3, _⟩ := h
  have := Int.mul_le_mul_of_nonneg_left h3 (show 0 ≤ num s p c - 1 by omega)
  omega
theorem bef_le {s p c : Int} (h : Ok s p c) (t : Int) : 0 ≤ bef s p c t ∧ bef s p c t ≤ num s p c := by
  have := num_pos h
  unfold bef
  split
  · omega
  · have : 0 ≤ (t - s - 1) / p := Int.ediv_nonneg (by omega) (by have := h.2.2.1; omega)
    split <;> omega
/-- THE LAW: the time with number n comes before t -/
theorem bef_lt {s p c : Int} (h : Ok s p c) (t n : Int) (hn : 0 ≤ n) : n < bef s p c t ↔ (n < num s p c ∧ s + n * p < t) := by
  have hp := h.2.2.1
  have hnn := tm_nonneg hp hn
  unfold bef
  split
  · constructor
    · omega
    · rintro ⟨a, b⟩; omega
  · have e : n ≤ (t - s - 1) / p ↔ n * p ≤ t - s - 1 := Int.le_ediv_iff_mul_le (by omega)
    split <;> omega
theorem bef_mono {s p c : Int} (h : Ok s p c) {t u : Int} (ht : t ≤ u) : bef s p c t ≤ bef s p c u := by
  have a := bef_le h t
  have b := bef_le h u
  by_cases hc : bef s p c u < bef s p c t
  · have e1 := (bef_lt h t _ b.1).1 hc
    have e2 := bef_lt h u _ b.1
    have : ¬ bef s p c u < bef s p c u := by omega
    rw [e2] at this
    exact absurd ⟨e1.1, by omega⟩ this
  · omega
theorem is_iff {s p c : Int} (h : Ok s p c) (t : Int) : isB s p c t = true ↔ ∃ n, 0 ≤ n ∧ n < num s p c ∧ t = s + n * p := by
  have hp := h.2.2.1
  unfold isB
  rw [decide_eq_true_iff]
  constructor
  · rintro ⟨a, b, d⟩
    refine ⟨(t - s) / p, Int.ediv_nonneg (by omega) (by omega), d, ?_⟩
    have := Int.mul_ediv_add_emod (t - s) p
    rw [b, Int.mul_comm] at this; omega
  · rintro ⟨n, a, b, rfl⟩
    have e : s + n * p - s = n * p := by omega
    rw [e]
    have := tm_nonneg hp a
    refine ⟨by omega, Int.mul_emod_left _ _, ?_⟩
    rw [Int.mul_ediv_cancel _ (by omega)]; exact b
theorem is_false {s p c : Int} (h : Ok s p c) {t : Int} (hf : isB s p c t = false) (n : Int) (h0 : 0 ≤ n) (hn : n < num s p c) : t ≠ s + n * p := by
  intro e
  have := (is_iff h t).2 ⟨n, h0, hn, e⟩
  rw [hf] at this; cases this
/-- the number of a time is how many come before it -/
theorem bef_tm {s p c : Int} (h : Ok s p c) {n : Int} (h0 : 0 ≤ n) (hn : n < num s p c) : bef s p c (s + n * p) = n := by
  have a := bef_le h (s + n * p)
  have e1 := bef_lt h (s + n * p) n h0
  have hp := h.2.2.1
  have e2 := bef_lt h (s + n * p) (bef s p c (s + n * p)) a.1
  have k := @tm_lt p (bef s p c (s + n * p)) n hp
  omega
theorem bef_tm1 {s p c : Int} (h : Ok s p c) {n : Int} (h0 : 0 ≤ n) (hn : n < num s p c) : bef s p c (s + n * p + 1) = n + 1 := by
  have a := bef_le h (s + n * p + 1)
  have hp := h.2.2.1
  have e1 := bef_lt h (s + n * p + 1) n h0
  have e2 := bef_lt h (s + n * p + 1) (n + 1) (by omega)
  rw [Int.add_mul] at e2
  omega
/-- has: the time with the number of those before it is the time itself -/
theorem has_iff {s p c : Int} (h : Ok s p c) (t : Int) : isB s p c t = true ↔ (bef s p c t < num s p c ∧ s + bef s p c t * p = t) := by
  have a := bef_le h t
  constructor
  · intro hi
    obtain ⟨n, h0, hn, rfl⟩ := (is_iff h t).1 hi
    rw [bef_tm h h0 hn]; exact ⟨hn, rfl⟩
  · rintro ⟨x, y⟩
    exact (is_iff h t).2 ⟨_, a.1, x, y.symm⟩
theorem is_idx {s p c : Int} (h : Ok s p c) {t : Int} (hi : isB s p c t = true) : (t - s) / p = bef s p c t := by
  obtain ⟨n, h0, hn, rfl⟩ := (is_iff h t).1 hi
  rw [bef_tm h h0 hn, show s + n * p - s = n * p by omega, Int.mul_ediv_cancel _ (by have := h.2.2.1; omega)]
/-- a time more: t itself -/
theorem bef_succ {s p c : Int} (h : Ok s p c) (t : Int) : bef s p c (t + 1) = bef s p c t + (if isB s p c t = true then 1 else 0) := by
  by_cases hi : isB s p c t = true
  · rw [if_pos hi]
    obtain ⟨n, h0, hn, rfl⟩ := (is_iff h t).1 hi
    rw [bef_tm h h0 hn, bef_tm1 h h0 hn]
  · rw [if_neg hi]
    have a := bef_le h t
    have b := bef_le h (t + 1)
    have m := bef_mono h (show t ≤ t + 1 by omega)
    by_cases hc : bef s p c t < bef s p c (t + 1)
    · have e1 := (bef_lt h (t + 1) _ a.1).1 hc
      have e2 := bef_lt h t _ a.1
      have : ¬ bef s p c t < bef s p c t := by omega
      rw [e2] at this
      have g : s + bef s p c t * p = t := by
        have : ¬ s + bef s p c t * p < t := fun k => this ⟨e1.1, k⟩
        omega
      exact absurd ((has_iff h t).2 ⟨e1.1, g⟩) hi
    · omega
/-! ### the answers -/
def nxtB (s p c t : Int) : Bool := decide (bef s p c (t + 1) < num s p c)
def nxtV (s p c t : Int) : Int := if bef s p c (t + 1) < num s p c then s + bef s p c (t + 1) * p else 0
def prvB (s p c t : Int) : Bool := decide (0 < bef s p c t)
def prvV (s p c t : Int) : Int := if 0 < bef s p c t then s + (bef s p c t - 1) * p else 0
def cntV (s p c a b : Int) : Int := if a ≤ b then bef s p c (b + 1) - bef s p c a else 0
end Ev
