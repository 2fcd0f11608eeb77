/- Plain facts on the law Twice. -/
import Derived.Test.YtadfdkhgjjehnaaDoorLawD
namespace Go.Proofs.YtadfdkhgjjehnaaDoor
theorem getD_drop (l : List Int) (d i : Nat) : (l.drop d).getD i 0 = l.getD (d + i) 0 := by
  simp only [List.getD_eq_getElem?_getD, List.getElem?_drop]
theorem getD_take (l : List Int) (t i : Nat) (h : i < t) : (l.take t).getD i 0 = l.getD i 0 := by
  simp only [List.getD_eq_getElem?_getD, List.getElem?_take]
  rw [if_pos h]
theorem listE_mk {l : List Int} (h1 : l.length ≤ 100000) (h2 : Mf.NoBad l l.length) (h3 : Mf.Inc l l.length) : Mf.listE l = 0 := by
  unfold Mf.listE
  rw [if_neg (by omega), if_pos h2, if_pos h3]
theorem listE_drop {l : List Int} (h : Mf.listE l = 0) (d : Nat) : Mf.listE (l.drop d) = 0 := by
  obtain ⟨h1, h2, h3⟩ := Mf.listE_zero h
  refine listE_mk (by rw [List.length_drop]; omega) (fun i hi => ?_) (fun i hi => ?_)
  · rw [List.length_drop] at hi
    rw [getD_drop]
    exact h2 (d + i) (by omega)
  · rw [List.length_drop] at hi
    rw [getD_drop, getD_drop]
    exact h3 (d + i) (by omega)
theorem listE_take {l : List Int} (h : Mf.listE l = 0) (t : Nat) : Mf.listE (l.take t) = 0 := by
  obtain ⟨h1, h2, h3⟩ := Mf.listE_zero h
  refine listE_mk (by rw [List.length_take]; omega) (fun i hi => ?_) (fun i hi => ?_)
  · rw [List.length_take] at hi
    rw [getD_take _ _ _ (by omega)]
    exact h2 i (by omega)
  · rw [List.length_take] at hi
    rw [getD_take _ _ _ (by omega), getD_take _ _ _ (by omega)]
    exact h3 i (by omega)
theorem not_crs {l : List Int} (h : Mf.listE l = 0) {d t : Nat} (hd : d ≤ t) (ht : t ≤ l.length) : ¬ crs ((l.take t).drop d) (l.drop t) := by
  obtain ⟨h1, h2, h3⟩ := Mf.listE_zero h
  rintro ⟨q1, q2, q3⟩
  rw [List.length_drop, List.length_take] at q1
  rw [List.length_drop] at q2
  rw [getD_drop, getD_drop, List.length_drop, List.length_take, getD_take _ _ _ (by omega)] at q3
  have := h3 (t - 1) (by omega)
  rw [show t + 0 = t - 1 + 1 by omega, show d + (min t l.length - d - 1) = t - 1 by omega] at q3
  omega
theorem kept_twice {p k : Int} (h : Mf.chkE p k = 0) (n t d : Int) (h0 : 0 ≤ t) (ht : t ≤ n) (hd : d = t - Mf.kept p k t) : Mf.kept p k (n - d) = Mf.kept p k n := by
  rcases chk_cases h with ⟨rfl, rfl⟩ | ⟨rfl, rfl⟩ | ⟨rfl, rfl⟩ | ⟨rfl, h1, h2⟩
  · rfl
  · simp only [Mf.kept] at hd ⊢; simp at hd ⊢; omega
  · simp only [Mf.kept] at hd ⊢; simp at hd ⊢; omega
  · simp only [Mf.kept] at hd ⊢; simp at hd ⊢; omega
/-- what is kept of the kept ones of the first part, and the second part -/
theorem keep_twice {p k : Int} {l : List Int} {n t : Nat} (hn : l.length = n) (ht : t ≤ n) (h : keepE p k l = 0) :
    keepE p k (l.take t) = 0 ∧ joinE p k (keepK p k (l.take t)) (l.drop t) = 0 ∧ joinK p k (keepK p k (l.take t)) (l.drop t) = keepK p k l ∧ joinE p k (l.take t) (l.drop t) = 0 ∧ joinK p k (l.take t) (l.drop t) = keepK p k l := by
  obtain ⟨e1, e2⟩ := keepE_zero h
  have a1 : keepE p k (l.take t) = 0 := by rw [keepE_of e1]; exact listE_take e2 t
  have lt : (l.take t).length = t := by rw [List.length_take]; omega
  obtain ⟨d1, d2⟩ := drp_le (n := t) e1
  have hk1 : keepK p k (l.take t) = (l.take t).drop (drp p k t) := by unfold keepK; rw [if_pos a1, lt]
  have hcat : (l.take t).drop (drp p k t) ++ l.drop t = l.drop (drp p k t) := by
    rw [← List.drop_append_of_le_length (by rw [lt]; exact d1), List.take_append_drop]
  have hj : ∀ d, d ≤ t → Mf.or3 (Mf.chkE p k) (Mf.listE ((l.take t).drop d)) (Mf.listE (l.drop t)) = 0 := by
    intro d _
    rw [e1, listE_drop (listE_take e2 t), listE_drop e2]; rfl
  have j1 : joinE p k (keepK p k (l.take t)) (l.drop t) = 0 := by
    rw [hk1, joinE_ok (hj _ d1) (not_crs e2 d1 (by omega)), hcat, keepE_of e1]
    exact listE_drop e2 _
  have j2 : joinE p k (l.take t) (l.drop t) = 0 := by
    have q := hj 0 (by omega)
    have q2 := not_crs e2 (Nat.zero_le t) (show t ≤ l.length by omega)
    rw [List.drop_zero] at q q2
    rw [joinE_ok q q2, List.take_append_drop]; exact h
  refine ⟨a1, j1, ?_, j2, ?_⟩
  · unfold joinK
    rw [if_pos j1, hk1, hcat]
    have b1 : keepE p k (l.drop (drp p k t)) = 0 := by rw [keepE_of e1]; exact listE_drop e2 _
    unfold keepK
    rw [if_pos b1, if_pos h, List.drop_drop, List.length_drop, hn]
    congr 1
    obtain ⟨f1, f2⟩ := drp_le (n := n) e1
    obtain ⟨g1, g2⟩ := drp_le (n := n - drp p k t) e1
    have hh := kept_twice e1 n t (drp p k t) (by omega) (by omega) d2
    rw [show ((n - drp p k t : Nat) : Int) = (n : Int) - (drp p k t : Int) by omega] at g2
    rw [hh] at g2
    omega
  · unfold joinK
    rw [if_pos j2, List.take_append_drop]
end Go.Proofs.YtadfdkhgjjehnaaDoor
