/- In which order a wheel's timers fire, and why it comes to an end. -/
import Derived.Test.YtnmgcjkffeeapaaDoorWhq
namespace Go.Proofs.YtnmgcjkffeeapaaDoor
namespace Whp
/-- one timer is before another one -/
def bef (t : Nat → Nat) (a b : Nat) : Prop := t a < t b ∨ (t a = t b ∧ a < b)
def rem (S : Nat → Bool) (i : Nat) : Nat → Bool := fun k => if k = i then false else S k
def rmv (S : Nat → Bool) (l : List Nat) : Nat → Bool := fun k => S k && !(l.contains k)
def ins (S : Nat → Bool) (i : Nat) : Nat → Bool := fun k => if k = i then true else S k
theorem rmv_nil (S : Nat → Bool) : rmv S [] = S := by funext k; simp [rmv]
theorem rmv_cons (S : Nat → Bool) (i : Nat) (l : List Nat) : rmv (rem S i) l = rmv S (i :: l) := by
  funext k
  unfold rmv rem
  by_cases e : k = i
  · subst e; simp
  · simp [e]
theorem rmv_append (S : Nat → Bool) (l m : List Nat) : rmv (rmv S l) m = rmv S (l ++ m) := by
  funext k
  simp [rmv, Bool.and_assoc]
/-- the timers of l leave S, each the first one that is left -/
inductive Drains (t : Nat → Nat) : (Nat → Bool) → List Nat → Prop
  | nil (S : Nat → Bool) : Drains t S []
  | cons {S : Nat → Bool} {i : Nat} {l : List Nat} (h : S i = true) (hm : ∀ k, S k = true → k ≠ i → bef t i k) (hl : Drains t (rem S i) l) : Drains t S (i :: l)
theorem Drains.append {t : Nat → Nat} : ∀ {l : List Nat} {S : Nat → Bool} {m : List Nat}, Drains t S l → Drains t (rmv S l) m → Drains t S (l ++ m)
  | [], S, m, _, h => by rw [rmv_nil] at h; exact h
  | i :: l, S, m, .cons h hm hl, k => by
    refine .cons h hm (Drains.append hl ?_)
    rw [rmv_cons]
    exact k
/-- a sorted batch of firsts -/
theorem batch {t : Nat → Nat} : ∀ {d : List Nat} {S : Nat → Bool}, d.Pairwise (bef t) → (∀ i ∈ d, S i = true) → (∀ i ∈ d, ∀ k, S k = true → k ∉ d → bef t i k) → Drains t S d
  | [], S, _, _, _ => .nil S
  | i :: d, S, hp, h1, h2 => by
    obtain ⟨hi, hd⟩ := List.pairwise_cons.1 hp
    have hni : i ∉ d := fun hm => by
      have := hi i hm
      unfold bef at this
      omega
    refine .cons (h1 i (by simp)) (fun k hk hne => ?_) (batch hd (fun j hj => ?_) (fun j hj k hk hkn => ?_))
    · by_cases q : k ∈ d
      · exact hi k q
      · exact h2 i (by simp) k hk (by simp [hne, q])
    · have : j ≠ i := fun e => hni (e ▸ hj)
      unfold rem
      rw [if_neg this]
      exact h1 j (by simp [hj])
    · unfold rem at hk
      split at hk
      · cases hk
      · rename_i hki
        exact h2 j (by simp [hj]) k hk (by simp [hki, hkn])
theorem WInv.add {t : Nat → Nat} {f : Nat} {S : Nat → Bool} {rows : Nat → List Nat} (h : WInv t f S rows) {i : Nat} (hi : S i = false) (ht : f ≤ t i) : WInv t f (ins S i) (fun j => if j = loc (t i) f then rows j ++ [i] else rows j) := by
  refine ⟨fun j => ?_, fun k hk => ?_⟩
  · have hj := h.1 j
    have hni : i ∉ rows j := fun hm => by
      have := ((hj.2 i).1 hm).1
      rw [hi] at this; cases this
    by_cases e : j = loc (t i) f
    · simp only [if_pos e]
      refine ⟨?_, fun k => ?_⟩
      · rw [List.nodup_append]
        refine ⟨hj.1, by simp, fun a ha b hb e2 => ?_⟩
        simp at hb
        subst e2 hb
        exact hni ha
      · simp only [List.mem_append, List.mem_singleton]
        rw [hj.2 k]
        unfold ins
        by_cases q : k = i
        · subst q
          simp [e]
        · simp [q]
    · simp only [if_neg e]
      refine ⟨hj.1, fun k => ?_⟩
      rw [hj.2 k]
      unfold ins
      by_cases q : k = i
      · subst q
        simp [hi]
        exact fun q => e q.symm
      · simp [q]
  · unfold ins at hk
    split at hk
    · rename_i e; rw [e]; exact ht
    · exact h.2 k hk
/-- the row that fires -/
theorem fire {t : Nat → Nat} {f : Nat} {S : Nat → Bool} {rows : Nat → List Nat} (h : WInv t f S rows) {j : Nat} (hj : j < 64) (hmin : ∀ i, S i = true → j ≤ loc (t i) f) {d : List Nat} (hd : d.Perm (rows j)) (hs : d.Pairwise (bef t)) :
    Drains t S d ∧ (∀ i ∈ d, t i = beg j f) ∧ WInv t f (rmv S d) (fun k => if k = j then [] else rows k) ∧ ∀ i, rmv S d i = true → beg j f + 1 ≤ t i := by
  have hmem : ∀ i, i ∈ d ↔ S i = true ∧ loc (t i) f = j := fun i => hd.mem_iff.trans ((h.1 j).2 i)
  have hat : ∀ i ∈ d, t i = beg j f := fun i hi => by
    obtain ⟨a, b⟩ := (hmem i).1 hi
    have := loc_beg (h.2 i a) (by omega) b
    rw [wid1 hj] at this
    omega
  have hlater : ∀ k, S k = true → k ∉ d → beg j f + 1 ≤ t k := fun k hk hn => by
    have h1 := hmin k hk
    have h2 : loc (t k) f ≠ j := fun e => hn ((hmem k).2 ⟨hk, e⟩)
    have h3 := h.2 k hk
    rw [beg1 hj]
    rcases loc_cases (t k) f with ⟨g1, g2⟩ | ⟨g0, g1, g2⟩ | ⟨g0, g1, g2⟩ | ⟨g0, g1, g2⟩ | ⟨g1, g2⟩ <;> omega
  refine ⟨batch hs (fun i hi => ((hmem i).1 hi).1) (fun i hi k hk hn => ?_), hat, ⟨fun k => ?_, fun i hi => ?_⟩, fun i hi => ?_⟩
  · left
    have := hlater k hk hn
    rw [hat i hi]; omega
  · by_cases e : k = j
    · subst e
      simp only [if_true]
      refine ⟨by simp, fun i => ?_⟩
      simp only [List.not_mem_nil, false_iff, not_and]
      intro hi
      unfold rmv at hi
      simp only [Bool.and_eq_true, Bool.not_eq_true', List.contains_eq_mem, decide_eq_false_iff_not] at hi
      exact fun q => hi.2 ((hmem i).2 ⟨hi.1, q⟩)
    · simp only [if_neg e]
      refine ⟨(h.1 k).1, fun i => ?_⟩
      rw [(h.1 k).2 i]
      unfold rmv
      simp only [Bool.and_eq_true, Bool.not_eq_true', List.contains_eq_mem, decide_eq_false_iff_not]
      constructor
      · rintro ⟨a, b⟩
        exact ⟨⟨a, fun hm => by have := ((hmem i).1 hm).2; omega⟩, b⟩
      · rintro ⟨⟨a, _⟩, b⟩
        exact ⟨a, b⟩
  · unfold rmv at hi
    simp only [Bool.and_eq_true] at hi
    exact h.2 i hi.1
  · unfold rmv at hi
    simp only [Bool.and_eq_true, Bool.not_eq_true', List.contains_eq_mem, decide_eq_false_iff_not] at hi
    exact hlater i hi.1 hi.2
/-- what is left to be done -/
def mes (t : Nat → Nat) (f n : Nat) (S : Nat → Bool) : Nat := ((List.range n).map fun i => if S i then loc (t i) f / 64 + 1 else 0).sum
theorem sum_le {f g : Nat → Nat} : ∀ (l : List Nat), (∀ i ∈ l, f i ≤ g i) → (l.map f).sum ≤ (l.map g).sum
  | [], _ => Nat.le_refl _
  | a :: l, h => by
    simp only [List.map_cons, List.sum_cons]
    exact Nat.add_le_add (h a (by simp)) (sum_le l fun i hi => h i (by simp [hi]))
theorem sum_lt {f g : Nat → Nat} : ∀ (l : List Nat), (∀ i ∈ l, f i ≤ g i) → (∃ i ∈ l, f i < g i) → (l.map f).sum < (l.map g).sum
  | [], _, ⟨_, h, _⟩ => by cases h
  | a :: l, h, ⟨i, hi, hl⟩ => by
    simp only [List.map_cons, List.sum_cons]
    rcases List.mem_cons.1 hi with e | e
    · subst e
      exact Nat.add_lt_add_of_lt_of_le hl (sum_le l fun i hi => h i (by simp [hi]))
    · exact Nat.add_lt_add_of_le_of_lt (h a (by simp)) (sum_lt l (fun i hi => h i (by simp [hi])) ⟨i, e, hl⟩)
theorem mes_enter {t : Nat → Nat} {f f' n : Nat} {S : Nat → Bool} (hf : f ≤ f') (hS : ∀ i, S i = true → f' ≤ t i) {i : Nat} (hi : i < n) (hSi : S i = true) (hd : loc (t i) f' / 64 < loc (t i) f / 64) : mes t f' n S < mes t f n S := by
  refine sum_lt _ (fun k _ => ?_) ⟨i, List.mem_range.2 hi, ?_⟩
  · by_cases q : S k = true
    · simp only [q, if_true]
      have := lev_mono hf (hS k q)
      omega
    · simp [q]
  · simp only [hSi, if_true]
    omega
theorem mes_fire {t : Nat → Nat} {f f' n : Nat} {S : Nat → Bool} {d : List Nat} (hf : f ≤ f') (hS : ∀ i, rmv S d i = true → f' ≤ t i) {i : Nat} (hi : i < n) (hSi : S i = true) (hd : i ∈ d) : mes t f' n (rmv S d) < mes t f n S := by
  refine sum_lt _ (fun k _ => ?_) ⟨i, List.mem_range.2 hi, ?_⟩
  · by_cases q : rmv S d k = true
    · have q2 : S k = true := by unfold rmv at q; simp at q; exact q.1
      simp only [q, q2, if_true]
      have := lev_mono hf (hS k q)
      omega
    · simp [q]
  · have q : rmv S d i = false := by unfold rmv; simp [hd]
    simp only [hSi, q, if_true]
    simp
end Whp
end Go.Proofs.YtnmgcjkffeeapaaDoor
