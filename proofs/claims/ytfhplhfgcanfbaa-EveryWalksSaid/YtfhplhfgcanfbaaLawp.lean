import Derived.Test.YtfhplhfgcanfbaaEvp
/- Plain facts behind the laws of layer 10. -/
namespace Ev
set_option linter.unusedVariables false
theorem is01 {s p c : Int} (h : Ok s p c) (b : Int) : (isB s p c b = true ∧ bef s p c (b + 1) - bef s p c b = 1) ∨ (isB s p c b = false ∧ bef s p c (b + 1) - bef s p c b = 0) := by
  have := bef_succ h b
  cases hi : isB s p c b with
  | true => rw [hi, if_pos rfl] at this; exact Or.inl ⟨rfl, by omega⟩
  | false => rw [hi, if_neg (by decide)] at this; exact Or.inr ⟨rfl, by omega⟩
/-- the last time -/
theorem last_is {s p c : Int} (h : Ok s p c) : isB s p c (s + (num s p c - 1) * p) = true := by
  have := num_pos h
  exact (is_iff h _).2 ⟨num s p c - 1, by omega, by omega, rfl⟩
theorem last_tok {s p c : Int} (h : Ok s p c) : TOk (s + (num s p c - 1) * p) := by
  have a := num_pos h
  have b := tm_nonneg h.2.2.1 (show 0 ≤ num s p c - 1 by omega)
  exact ⟨by have := h.1; omega, tm_le h (by omega)⟩
theorem bef_all {s p c t : Int} (h : Ok s p c) (ht : 253402300799 < t) : bef s p c t = num s p c := by
  have a := bef_le h t
  have b := num_pos h
  by_cases hc : bef s p c t < num s p c
  · have e := bef_lt h t (bef s p c t) a.1
    have f := tm_le h hc
    omega
  · omega
theorem bef_none {s p c t : Int} (ht : t ≤ s) : bef s p c t = 0 := if_pos ht
theorem last_far {s p c : Int} (h : Ok s p c) (hc : c = 0 ∨ num s p c < c) : 253402300799 - p < s + (num s p c - 1) * p := by
  have hp := h.2.2.1
  have e : num s p c = 1 + (253402300799 - s) / p := by
    unfold num at hc ⊢
    split
    · rename_i hh; rw [if_pos hh] at hc; omega
    · rfl
  rw [e]
  have q := Int.mul_ediv_add_emod (253402300799 - s) p
  have r := Int.emod_lt_of_pos (253402300799 - s) (show 0 < p by omega)
  rw [Int.mul_comm] at q
  rw [show 1 + (253402300799 - s) / p - 1 = (253402300799 - s) / p by omega]
  omega
theorem num_count {s p c : Int} (h : Ok s p c) (hc : 0 < c) : num s p c ≤ c := by
  unfold num; split <;> omega
theorem num_iff {s p c : Int} (h : Ok s p c) (n : Int) : n < num s p c ↔ ((c = 0 ∨ n < c) ∧ s + n * p ≤ 253402300799) := by
  have hp := h.2.2.1
  have e : n ≤ (253402300799 - s) / p ↔ n * p ≤ 253402300799 - s := Int.le_ediv_iff_mul_le (by omega)
  have hc := h.2.2.2.2.1
  unfold num; split <;> omega
/-- a later start -/
theorem shift_ok {s p c d : Int} (h : Ok s p c) (hd : 0 ≤ d ∧ d < 1048576) (hs : s ≤ 253401252223) : Ok (s + d) p c := by
  obtain ⟨h1, h2, h3, h4, h5, h6⟩ := h
  exact ⟨by omega, by omega, h3, h4, h5, h6⟩
theorem shift_bef {s p c d t : Int} (h : Ok s p c) (hd : 0 ≤ d ∧ d < 1048576) (hs : s ≤ 253401252223) (ht : t ≤ 253401252224) : bef (s + d) p c (t + d) = bef s p c t := by
  have h' := shift_ok h hd hs
  have a := bef_le h t
  have b := bef_le h' (t + d)
  have key : ∀ n, 0 ≤ n → (n < bef (s + d) p c (t + d) ↔ n < bef s p c t) := by
    intro n hn
    rw [bef_lt h' _ n hn, bef_lt h _ n hn, num_iff h', num_iff h]
    constructor <;> rintro ⟨⟨x, y⟩, z⟩ <;> exact ⟨⟨x, by omega⟩, by omega⟩
  have k1 := key _ a.1
  have k2 := key _ b.1
  omega
theorem shift_is {s p c d t : Int} (h : Ok s p c) (hd : 0 ≤ d ∧ d < 1048576) (hs : s ≤ 253401252223) (ht : t ≤ 253401252223) : isB (s + d) p c (t + d) = isB s p c t := by
  have h' := shift_ok h hd hs
  have e1 := shift_bef h hd hs (t := t) (by omega)
  have e2 := shift_bef h hd hs (t := t + 1) (by omega)
  rw [show t + 1 + d = t + d + 1 by omega] at e2
  rcases is01 h t with ⟨a, b⟩ | ⟨a, b⟩ <;> rcases is01 h' (t + d) with ⟨c, d⟩ | ⟨c, d⟩
  · rw [a, c]
  · omega
  · omega
  · rw [a, c]
/-- the next time, of both schedules: B comes before both -/
theorem shift_next {s p c d t : Int} (h : Ok s p c) (hd : 0 ≤ d ∧ d < 1048576) (hs : s ≤ 253401252223) (ht : t ≤ 253401252223) :
    (nxtB s p c t = true ∧ nxtV s p c t ≤ 253402300799 - d ∧ nxtB (s + d) p c (t + d) = true ∧ nxtV (s + d) p c (t + d) = nxtV s p c t + d) ∨
    (nxtB s p c t = true ∧ 253402300799 - d < nxtV s p c t ∧ nxtB (s + d) p c (t + d) = false ∧ nxtV (s + d) p c (t + d) = 0) ∨
    (nxtB s p c t = false ∧ nxtV s p c t = 0 ∧ nxtB (s + d) p c (t + d) = false ∧ nxtV (s + d) p c (t + d) = 0) := by
  have h' := shift_ok h hd hs
  have e := shift_bef h hd hs (t := t + 1) (by omega)
  rw [show t + 1 + d = t + d + 1 by omega] at e
  unfold nxtB nxtV
  rw [e]
  have a := bef_le h (t + 1)
  have i1 := num_iff h (bef s p c (t + 1))
  have i2 := num_iff h' (bef s p c (t + 1))
  generalize bef s p c (t + 1) = B at *
  have hB : s + d + B * p = s + B * p + d := by omega
  by_cases c1 : B < num s p c
  · by_cases c2 : B < num (s + d) p c
    · left
      rw [if_pos c1, if_pos c2, decide_eq_true c1, decide_eq_true c2]
      have := i2.1 c2
      exact ⟨rfl, by omega, rfl, hB⟩
    · right; left
      rw [if_pos c1, if_neg c2, decide_eq_true c1, decide_eq_false c2]
      refine ⟨rfl, ?_, rfl, rfl⟩
      have := i1.1 c1
      by_cases c3 : s + B * p ≤ 253402300799 - d
      · exact absurd (i2.2 ⟨this.1, by omega⟩) c2
      · omega
  · have c2 : ¬ B < num (s + d) p c := fun k => c1 (i1.2 ⟨(i2.1 k).1, by have := (i2.1 k).2; omega⟩)
    right; right
    rw [if_neg c1, if_neg c2, decide_eq_false c1, decide_eq_false c2]
    exact ⟨rfl, rfl, rfl, rfl⟩
/-- a step: the next time of t, or the last one -/
theorem step_last {s p c t : Int} (h : Ok s p c) (hb : ¬ bef s p c (t + 1) < num s p c) : s + (num s p c - 1) * p ≤ t := by
  have a := bef_le h (t + 1)
  have b := num_pos h
  have e := bef_lt h (t + 1) (num s p c - 1) (by omega)
  have := e.1 (by omega)
  omega
theorem step_next {s p c t u : Int} (h : Ok s p c) (ht : TOk t) (hb : bef s p c (t + 1) < num s p c) (hu : s + bef s p c (t + 1) * p = u) :
    t < u ∧ TOk u ∧ isB s p c u = true ∧ bef s p c (u + 1) = bef s p c (t + 1) + 1 ∧ bef s p c u = bef s p c (t + 1) := by
  have a := bef_le h (t + 1)
  have e := bef_lt h (t + 1) (bef s p c (t + 1)) a.1
  have f1 := bef_tm1 h a.1 hb
  have f2 := bef_tm h a.1 hb
  rw [hu] at f1 f2 e
  have htu : t < u := by
    by_cases k : t < u
    · exact k
    · have := e.2 ⟨hb, by omega⟩; omega
  have m := tm_le h hb
  rw [hu] at m
  have := ht.1
  exact ⟨htu, ⟨by omega, m⟩, (is_iff h u).2 ⟨_, a.1, hb, hu.symm⟩, f1, f2⟩
/-- the time before the next one -/
theorem step_back {s p c t u : Int} (h : Ok s p c) (ht : TOk t) (hb : bef s p c (t + 1) < num s p c) (hu : s + bef s p c (t + 1) * p = u) :
    (isB s p c t = true ∧ cntV s p c t u = 2 ∧ prvB s p c u = true ∧ prvV s p c u = t) ∨
    (isB s p c t = false ∧ cntV s p c t u = 1 ∧ ((prvB s p c u = true ∧ prvV s p c u < t) ∨ (prvB s p c u = false ∧ prvV s p c u = 0))) := by
  obtain ⟨g1, g2, g3, g4, g5⟩ := step_next h ht hb hu
  have a := bef_le h t
  unfold cntV prvB prvV
  rw [if_pos (by omega), g4, g5]
  rcases is01 h t with ⟨i, j⟩ | ⟨i, j⟩
  · left
    have hi := (has_iff h t).1 i
    rw [decide_eq_true (by omega), if_pos (by omega)]
    refine ⟨i, by omega, rfl, ?_⟩
    rw [show bef s p c (t + 1) - 1 = bef s p c t by omega]; exact hi.2
  · right
    refine ⟨i, by omega, ?_⟩
    by_cases k : 0 < bef s p c (t + 1)
    · left
      rw [decide_eq_true k, if_pos k]
      refine ⟨rfl, ?_⟩
      have := (bef_lt h t (bef s p c (t + 1) - 1) (by omega)).1 (by omega)
      exact this.2
    · right
      rw [decide_eq_false k, if_neg k]; exact ⟨rfl, rfl⟩
/-- the first shared time comes within one round of both periods -/
theorem meet_soon {s1 p1 c1 s2 p2 c2 t : Int} (h1 : Ok s1 p1 c1) (h2 : Ok s2 p2 c2) (a : isB s1 p1 c1 t = true) (b : isB s2 p2 c2 t = true) (hm : ∀ u, isB s1 p1 c1 u = true → isB s2 p2 c2 u = true → t ≤ u) :
    s1 ≤ t ∧ s2 ≤ t ∧ (t - p1 * p2 < s1 ∨ t - p1 * p2 < s2) := by
  obtain ⟨n, n0, n1, e1⟩ := (is_iff h1 t).1 a
  obtain ⟨m, m0, m1, e2⟩ := (is_iff h2 t).1 b
  have q1 := tm_nonneg h1.2.2.1 n0
  have q2 := tm_nonneg h2.2.2.1 m0
  have hp := Int.mul_pos (show 0 < p1 by have := h1.2.2.1; omega) (show 0 < p2 by have := h2.2.2.1; omega)
  refine ⟨by omega, by omega, ?_⟩
  by_cases k1 : t - p1 * p2 < s1
  · exact Or.inl k1
  by_cases k2 : t - p1 * p2 < s2
  · exact Or.inr k2
  have f1 : t - p1 * p2 = s1 + (n - p2) * p1 := by rw [Int.sub_mul, Int.mul_comm p2 p1]; omega
  have f2 : t - p1 * p2 = s2 + (m - p1) * p2 := by rw [Int.sub_mul]; omega
  have g1 : 0 ≤ n - p2 := by
    by_cases hc : 0 ≤ n - p2
    · exact hc
    · have := Int.mul_le_mul_of_nonneg_right (show n - p2 ≤ -1 by omega) (show 0 ≤ p1 by have := h1.2.2.1; omega)
      have := h1.2.2.1
      omega
  have g2 : 0 ≤ m - p1 := by
    by_cases hc : 0 ≤ m - p1
    · exact hc
    · have := Int.mul_le_mul_of_nonneg_right (show m - p1 ≤ -1 by omega) (show 0 ≤ p2 by have := h2.2.2.1; omega)
      have := h2.2.2.1
      omega
  have x1 := (is_iff h1 _).2 ⟨n - p2, g1, by have := h2.2.2.1; omega, f1⟩
  have x2 := (is_iff h2 _).2 ⟨m - p1, g2, by have := h1.2.2.1; omega, f2⟩
  have := hm _ x1 x2
  omega
end Ev
