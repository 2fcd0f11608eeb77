/- A binary heap, as mathematics: no program in sight. -/
namespace Go.Proofs.YtnmgcjkffeeapaaDoor
/-- a value with its id, and how many pushes there were before it -/
structure En where
  id : Int
  v : Int
  p : Int
namespace Hep
def dfl : En := ⟨0, 0, 0⟩
def lt (a b : En) : Prop := a.v < b.v ∨ (a.v = b.v ∧ a.p < b.p)
theorem lt_irr (a : En) : ¬ lt a a := by unfold lt; omega
theorem lt_asymm {a b : En} (h : lt a b) : ¬ lt b a := by unfold lt at *; omega
/-- not less is transitive -/
theorem nlt_trans {a b c : En} (h : ¬ lt a b) (k : ¬ lt b c) : ¬ lt a c := by unfold lt at *; omega
theorem nlt_of {a b c : En} (h : lt a b) (k : ¬ lt c b) : ¬ lt c a := by unfold lt at *; omega
def g (l : List En) (i : Nat) : En := l.getD i dfl
theorem g_lt {l : List En} {i : Nat} (h : i < l.length) : g l i = l[i] := by simp [g, h]
def swap (l : List En) (i k : Nat) : List En := (l.set i (g l k)).set k (g l i)
theorem swap_len (l : List En) (i k : Nat) : (swap l i k).length = l.length := by simp [swap]
theorem swap_perm {l : List En} {i k : Nat} (hi : i < l.length) (hk : k < l.length) : (swap l i k).Perm l := by
  unfold swap
  rw [g_lt hi, g_lt hk]
  exact List.set_set_perm hi hk
theorem g_set {l : List En} {i j : Nat} {x : En} (hi : i < l.length) : g (l.set i x) j = if j = i then x else g l j := by
  unfold g
  simp only [List.getD_eq_getElem?_getD, List.getElem?_set]
  split
  · rename_i h
    subst h
    simp
  · rename_i h
    rw [if_neg (fun e => h e.symm)]
theorem g_swap {l : List En} {i k j : Nat} (hi : i < l.length) (hk : k < l.length) : g (swap l i k) j = if j = k then g l i else if j = i then g l k else g l j := by
  unfold swap
  rw [g_set (by simpa using hk), g_set hi]
/-- no entry comes before its parent -/
def Hp (l : List En) : Prop := ∀ j, 0 < j → j < l.length → ¬ lt (g l j) (g l ((j - 1) / 2))
/-- .. but perhaps the one at i, whose children may stand under its parent -/
def HU (l : List En) (i : Nat) : Prop := (∀ j, 0 < j → j < l.length → j ≠ i → ¬ lt (g l j) (g l ((j - 1) / 2))) ∧ ∀ c, 0 < c → c < l.length → (c - 1) / 2 = i → 0 < i → ¬ lt (g l c) (g l ((i - 1) / 2))
/-- .. but perhaps the children of the one at i -/
def HD (l : List En) (i : Nat) : Prop := (∀ j, 0 < j → j < l.length → (j - 1) / 2 ≠ i → ¬ lt (g l j) (g l ((j - 1) / 2))) ∧ ∀ c, 0 < c → c < l.length → (c - 1) / 2 = i → 0 < i → ¬ lt (g l c) (g l ((i - 1) / 2))
theorem up_exit {l : List En} {i : Nat} (h : HU l i) (hx : i = 0 ∨ ¬ lt (g l i) (g l ((i - 1) / 2))) : Hp l := by
  intro j h0 hj
  by_cases e : j = i
  · subst e
    rcases hx with hx | hx
    · omega
    · exact hx
  · exact h.1 j h0 hj e
theorem up_step {l : List En} {i : Nat} (h : HU l i) (h0 : 0 < i) (hi : i < l.length) (hl : lt (g l i) (g l ((i - 1) / 2))) : HU (swap l i ((i - 1) / 2)) ((i - 1) / 2) := by
  have hp : (i - 1) / 2 < l.length := by omega
  have hpi : (i - 1) / 2 ≠ i := by omega
  refine ⟨fun j hj0 hj hne => ?_, fun c hc0 hc hcp hp0 => ?_⟩
  · rw [swap_len] at hj
    rw [g_swap hi hp, g_swap hi hp, if_neg hne]
    by_cases e : j = i
    · subst e
      rw [if_pos rfl, if_pos rfl]
      exact lt_asymm hl
    · rw [if_neg e]
      by_cases e2 : (j - 1) / 2 = (i - 1) / 2
      · rw [if_pos e2]
        have := h.1 j hj0 hj e
        rw [e2] at this
        exact nlt_of hl this
      · rw [if_neg e2]
        by_cases e3 : (j - 1) / 2 = i
        · rw [if_pos e3]
          exact h.2 j hj0 hj e3 h0
        · rw [if_neg e3]
          exact h.1 j hj0 hj e
  · rw [swap_len] at hc
    have k1 : (i - 1) / 2 ≠ ((i - 1) / 2 - 1) / 2 := by omega
    have k2 : ((i - 1) / 2 - 1) / 2 ≠ i := by omega
    have hpp := h.1 ((i - 1) / 2) hp0 hp hpi
    rw [g_swap hi hp, g_swap hi hp, if_neg (Ne.symm k1), if_neg k2]
    have e1 : c ≠ (i - 1) / 2 := by omega
    rw [if_neg e1]
    by_cases e : c = i
    · rw [if_pos e]; exact hpp
    · rw [if_neg e]
      have := h.1 c hc0 hc e
      rw [hcp] at this
      exact nlt_trans this hpp
theorem push {l : List En} (h : Hp l) (x : En) : HU (l ++ [x]) l.length := by
  have ga : ∀ j, j < l.length → g (l ++ [x]) j = g l j := fun j hj => by
    unfold g
    simp only [List.getD_eq_getElem?_getD]
    rw [List.getElem?_append_left hj]
  refine ⟨fun j hj0 hj hne => ?_, fun c hc0 hc hcp _ => ?_⟩
  · simp at hj
    rw [ga j (by omega), ga _ (by omega)]
    exact h j hj0 (by omega)
  · simp at hc
    omega
theorem down_exit {l : List En} {i : Nat} (h : HD l i) (hx : ∀ c, 0 < c → c < l.length → (c - 1) / 2 = i → ¬ lt (g l c) (g l i)) : Hp l := by
  intro j h0 hj
  by_cases e : (j - 1) / 2 = i
  · rw [e]; exact hx j h0 hj e
  · exact h.1 j h0 hj e
theorem down_step {l : List En} {i k : Nat} (h : HD l i) (hk0 : 0 < k) (hk : k < l.length) (hki : (k - 1) / 2 = i) (hl : lt (g l k) (g l i)) (hx : ∀ c, 0 < c → c < l.length → (c - 1) / 2 = i → ¬ lt (g l c) (g l k)) : HD (swap l i k) k := by
  have hi : i < l.length := by omega
  have hik : i ≠ k := by omega
  refine ⟨fun j hj0 hj hne => ?_, fun c hc0 hc hcp _ => ?_⟩
  · rw [swap_len] at hj
    rw [g_swap hi hk, g_swap hi hk, if_neg hne]
    by_cases e : j = k
    · subst e
      rw [if_pos rfl, if_pos hki]
      exact lt_asymm hl
    · rw [if_neg e]
      by_cases e2 : j = i
      · subst e2
        rw [if_pos rfl, if_neg (by omega)]
        exact h.2 k hk0 hk hki hj0
      · rw [if_neg e2]
        by_cases e3 : (j - 1) / 2 = i
        · rw [if_pos e3]
          exact hx j hj0 hj e3
        · rw [if_neg e3]
          exact h.1 j hj0 hj e3
  · rw [swap_len] at hc
    rw [g_swap hi hk, g_swap hi hk, hki, if_neg hik, if_pos rfl, if_neg (by omega), if_neg (by omega)]
    have := h.1 c hc0 hc (by omega)
    rw [hcp] at this
    exact this
/-- the last entry takes the first one's place -/
def popd (l : List En) : List En := (l.set 0 (g l (l.length - 1))).take (l.length - 1)
theorem popd_len (l : List En) : (popd l).length = l.length - 1 := by simp [popd]
theorem g_popd {l : List En} {j : Nat} (hj : j < l.length - 1) : g (popd l) j = if j = 0 then g l (l.length - 1) else g l j := by
  have h1 : g (popd l) j = g (l.set 0 (g l (l.length - 1))) j := by
    unfold popd g
    simp only [List.getD_eq_getElem?_getD, List.getElem?_take]
    rw [if_pos hj]
  rw [h1, g_set (by omega)]
theorem pop {l : List En} (h : Hp l) : HD (popd l) 0 := by
  refine ⟨fun j hj0 hj hne => ?_, fun c hc0 hc hcp h0 => by omega⟩
  rw [popd_len] at hj
  rw [g_popd hj, g_popd (by omega), if_neg (by omega), if_neg hne]
  exact h j hj0 (by omega)
theorem root {l : List En} (h : Hp l) : ∀ j, j < l.length → ¬ lt (g l j) (g l 0) := by
  intro j
  induction j using Nat.strongRecOn with
  | _ j ih =>
    intro hj
    by_cases h0 : j = 0
    · subst h0; exact lt_irr _
    · exact nlt_trans (h j (by omega) hj) (ih ((j - 1) / 2) (by omega) (by omega))
theorem pop_perm {l : List En} (h0 : 0 < l.length) : (g l 0 :: popd l).Perm l := by
  cases l with
  | nil => simp at h0
  | cons x r =>
    by_cases hr : r = []
    · subst hr
      simp [popd, g]
    · have hlen : r.length ≠ 0 := by simpa using hr
      have e1 : popd (x :: r) = r.getLast hr :: r.dropLast := by
        have : g (x :: r) ((x :: r).length - 1) = r.getLast hr := by
          unfold g
          simp only [List.length_cons, Nat.add_sub_cancel]
          rw [List.getLast_eq_getElem]
          obtain ⟨m, hm⟩ : ∃ m, r.length = m + 1 := ⟨r.length - 1, by omega⟩
          simp [hm]
        unfold popd
        rw [this]
        simp only [List.set_cons_zero, List.length_cons, Nat.add_sub_cancel]
        obtain ⟨m, hm⟩ : ∃ m, r.length = m + 1 := ⟨r.length - 1, by omega⟩
        rw [hm, List.take_succ_cons, List.dropLast_eq_take, hm]
        rfl
      rw [e1]
      have e2 : g (x :: r) 0 = x := rfl
      rw [e2]
      refine List.Perm.cons x ?_
      have := List.dropLast_concat_getLast hr
      conv => rhs; rw [← this]
      exact (List.perm_append_singleton _ _).symm
end Hep
end Go.Proofs.YtnmgcjkffeeapaaDoor
