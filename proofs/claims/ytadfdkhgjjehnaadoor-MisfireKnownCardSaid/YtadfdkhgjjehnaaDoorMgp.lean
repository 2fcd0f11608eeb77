/- Plain facts on the merging of lists: always the smallest head, of equal ones the first list's. No program in sight. -/
import Derived.Test.YtadfdkhgjjehnaaDoorMfp
namespace Mf
def row (L : List (List Int)) (i : Nat) : List Int := L.getD i []
def ln (L : List (List Int)) (i : Nat) : Nat := (row L i).length
def val (L : List (List Int)) (p : Nat → Nat) (i : Nat) : Int := (row L i).getD (p i) 0
/-- the best of the first i lists -/
def bst (L : List (List Int)) (p : Nat → Nat) : Nat → Option Nat
  | 0 => none
  | i + 1 => if p i < ln L i then (match bst L p i with | none => some i | some b => if val L p i < val L p b then some i else some b) else bst L p i
def bi : Option Nat → Int
  | none => -1
  | some b => b
theorem bst_skip {L : List (List Int)} {p : Nat → Nat} {i : Nat} (h : ¬ p i < ln L i) : bst L p (i + 1) = bst L p i := by simp only [bst]; rw [if_neg h]
theorem bst_first {L : List (List Int)} {p : Nat → Nat} {i : Nat} (h : p i < ln L i) (g : bst L p i = none) : bst L p (i + 1) = some i := by simp only [bst]; rw [if_pos h, g]
theorem bst_less {L : List (List Int)} {p : Nat → Nat} {i b : Nat} (h : p i < ln L i) (g : bst L p i = some b) (k : val L p i < val L p b) : bst L p (i + 1) = some i := by simp only [bst]; rw [if_pos h, g]; simp only [if_pos k]
theorem bst_keep {L : List (List Int)} {p : Nat → Nat} {i b : Nat} (g : bst L p i = some b) (k : ¬ val L p i < val L p b) : bst L p (i + 1) = some b := by
  simp only [bst]
  split
  · rw [g]; simp only [if_neg k]
  · exact g
theorem bst_none {L : List (List Int)} {p : Nat → Nat} : ∀ {i : Nat}, bst L p i = none → ∀ j, j < i → ¬ p j < ln L j
  | 0, _, j, hj => by omega
  | i + 1, h, j, hj => by
    by_cases hl : p i < ln L i
    · exfalso
      cases g : bst L p i with
      | none => rw [bst_first hl g] at h; cases h
      | some b =>
        by_cases k : val L p i < val L p b
        · rw [bst_less hl g k] at h; cases h
        · rw [bst_keep g k] at h; cases h
    · rw [bst_skip hl] at h
      rcases Nat.lt_or_ge j i with q | q
      · exact bst_none h j q
      · obtain rfl : j = i := by omega
        exact hl
theorem bst_some {L : List (List Int)} {p : Nat → Nat} : ∀ {i b : Nat}, bst L p i = some b → b < i ∧ p b < ln L b ∧ ∀ j, j < i → p j < ln L j → val L p b < val L p j ∨ (val L p b = val L p j ∧ b ≤ j)
  | 0, b, h => by cases h
  | i + 1, b, h => by
    by_cases hl : p i < ln L i
    · cases g : bst L p i with
      | none =>
        rw [bst_first hl g] at h
        cases h
        refine ⟨by omega, hl, fun j hj hlj => ?_⟩
        rcases Nat.lt_or_ge j i with q | q
        · exact absurd hlj (bst_none g j q)
        · obtain rfl : j = i := by omega
          exact Or.inr ⟨rfl, Nat.le_refl _⟩
      | some c =>
        obtain ⟨h1, h2, h3⟩ := bst_some g
        by_cases k : val L p i < val L p c
        · rw [bst_less hl g k] at h
          cases h
          refine ⟨by omega, hl, fun j hj hlj => ?_⟩
          rcases Nat.lt_or_ge j i with q | q
          · rcases h3 j q hlj with r | r <;> exact Or.inl (by omega)
          · obtain rfl : j = i := by omega
            exact Or.inr ⟨rfl, Nat.le_refl _⟩
        · rw [bst_keep g k] at h
          cases h
          refine ⟨by omega, h2, fun j hj hlj => ?_⟩
          rcases Nat.lt_or_ge j i with q | q
          · exact h3 j q hlj
          · obtain rfl : j = i := by omega
            rcases Int.lt_or_le (val L p b) (val L p j) with r | r
            · exact Or.inl r
            · exact Or.inr ⟨by omega, by omega⟩
    · rw [bst_skip hl] at h
      obtain ⟨h1, h2, h3⟩ := bst_some h
      refine ⟨by omega, h2, fun j hj hlj => ?_⟩
      rcases Nat.lt_or_ge j i with q | q
      · exact h3 j q hlj
      · obtain rfl : j = i := by omega
        exact absurd hlj hl
/-! ### the state after k rounds -/
def up (p : Nat → Nat) (b : Nat) : Nat → Nat := fun j => if j = b then p j + 1 else p j
def st (L : List (List Int)) : Nat → (Nat → Nat)
  | 0 => fun _ => 0
  | k + 1 => match bst L (st L k) L.length with | none => st L k | some b => up (st L k) b
def bk (L : List (List Int)) (k : Nat) : Option Nat := bst L (st L k) L.length
def item (L : List (List Int)) (k : Nat) : Int × Int := match bk L k with | none => (0, 0) | some b => (val L (st L k) b, b)
def sumTo (f : Nat → Nat) : Nat → Nat
  | 0 => 0
  | i + 1 => sumTo f i + f i
def tot (L : List (List Int)) : Nat := sumTo (ln L) L.length
def upto (L : List (List Int)) (k : Nat) : List (Int × Int) := (List.range k).map (item L)
def mrg (L : List (List Int)) : List (Int × Int) := upto L (tot L)
theorem upto_succ (L : List (List Int)) (k : Nat) : upto L (k + 1) = upto L k ++ [item L k] := by simp [upto, List.range_succ]
theorem upto_len (L : List (List Int)) (k : Nat) : (upto L k).length = k := by simp [upto]
theorem sumTo_mono {f g : Nat → Nat} : ∀ {n : Nat}, (∀ j, j < n → f j ≤ g j) → sumTo f n ≤ sumTo g n
  | 0, _ => Nat.le_refl _
  | n + 1, h => by
    have a := sumTo_mono (n := n) (fun j hj => h j (by omega))
    have b := h n (by omega)
    simp only [sumTo]; omega
theorem sumTo_lt {f g : Nat → Nat} : ∀ {n : Nat}, (∀ j, j < n → f j ≤ g j) → sumTo f n < sumTo g n → ∃ j, j < n ∧ f j < g j
  | 0, _, h => by simp [sumTo] at h
  | n + 1, h, hl => by
    by_cases q : f n < g n
    · exact ⟨n, by omega, q⟩
    · have b := h n (by omega)
      simp only [sumTo] at hl
      obtain ⟨j, h1, h2⟩ := sumTo_lt (n := n) (fun j hj => h j (by omega)) (by omega)
      exact ⟨j, by omega, h2⟩
theorem sumTo_strict {f g : Nat → Nat} : ∀ {n b : Nat}, (∀ j, j < n → f j ≤ g j) → b < n → f b < g b → sumTo f n < sumTo g n
  | 0, b, _, hb, _ => by omega
  | n + 1, b, h, hb, hl => by
    have a := sumTo_mono (n := n) (fun j hj => h j (by omega))
    have c := h n (by omega)
    simp only [sumTo]
    rcases Nat.lt_or_ge b n with q | q
    · have := sumTo_strict (n := n) (fun j hj => h j (by omega)) q hl; omega
    · obtain rfl : b = n := by omega
      omega
theorem sumTo_up {p : Nat → Nat} {b : Nat} : ∀ {n : Nat}, sumTo (up p b) n = sumTo p n + (if b < n then 1 else 0)
  | 0 => by simp [sumTo]
  | n + 1 => by
    simp only [sumTo, sumTo_up (n := n), up]
    by_cases h : n = b
    · subst h; simp; omega
    · by_cases q : b < n
      · rw [if_neg h, if_pos q, if_pos (by omega)]; omega
      · rw [if_neg h, if_neg q, if_neg (show ¬ b < n + 1 by omega), Nat.add_zero, Nat.add_zero]
theorem sumTo_zero : ∀ n : Nat, sumTo (fun _ => 0) n = 0
  | 0 => rfl
  | n + 1 => by simp [sumTo, sumTo_zero n]
theorem st_succ_none {L : List (List Int)} {k : Nat} (h : bk L k = none) : st L (k + 1) = st L k := by
  unfold bk at h; simp only [st, h]
theorem st_succ_some {L : List (List Int)} {k b : Nat} (h : bk L k = some b) : st L (k + 1) = up (st L k) b := by
  unfold bk at h; simp only [st, h]
theorem st_le (L : List (List Int)) : ∀ k j, st L k j ≤ ln L j
  | 0, j => Nat.zero_le _
  | k + 1, j => by
    cases h : bk L k with
    | none => rw [st_succ_none h]; exact st_le L k j
    | some b =>
      rw [st_succ_some h]
      obtain ⟨h1, h2, _⟩ := bst_some h
      unfold up
      split
      · rename_i e; subst e; omega
      · exact st_le L k j
theorem bk_some_of {L : List (List Int)} {k : Nat} (h : sumTo (st L k) L.length < tot L) : ∃ b, bk L k = some b := by
  obtain ⟨j, h1, h2⟩ := sumTo_lt (fun j _ => st_le L k j) h
  cases g : bk L k with
  | none => exact absurd h2 (bst_none g j h1)
  | some b => exact ⟨b, rfl⟩
theorem st_sum (L : List (List Int)) : ∀ k, k ≤ tot L → sumTo (st L k) L.length = k
  | 0, _ => sumTo_zero _
  | k + 1, h => by
    have ih := st_sum L k (by omega)
    obtain ⟨b, hb⟩ := bk_some_of (L := L) (k := k) (by omega)
    rw [st_succ_some hb, sumTo_up, ih, if_pos (bst_some hb).1]
theorem bk_some {L : List (List Int)} {k : Nat} (h : k < tot L) : ∃ b, bk L k = some b := bk_some_of (by rw [st_sum L k (by omega)]; exact h)
theorem bk_none (L : List (List Int)) : bk L (tot L) = none := by
  cases g : bk L (tot L) with
  | none => rfl
  | some b =>
    obtain ⟨h1, h2, _⟩ := bst_some g
    have := sumTo_strict (fun j _ => st_le L (tot L) j) h1 h2
    rw [st_sum L _ (Nat.le_refl _)] at this
    unfold tot at this
    omega
theorem bk_bd {L : List (List Int)} {k b : Nat} (h : bk L k = some b) : b < L.length ∧ st L k b < ln L b := ⟨(bst_some h).1, (bst_some h).2.1⟩
theorem item_some {L : List (List Int)} {k b : Nat} (h : bk L k = some b) : item L k = (val L (st L k) b, (b : Int)) := by unfold item; rw [h]
theorem st_up {L : List (List Int)} {k b : Nat} (h : bk L k = some b) (j : Nat) : st L (k + 1) j = if j = b then st L k j + 1 else st L k j := by rw [st_succ_some h]; rfl
/-! ### the order -/
def Incs (L : List (List Int)) : Prop := ∀ i, i < L.length → Inc (row L i) (ln L i)
theorem val_up {L : List (List Int)} {p : Nat → Nat} {b j : Nat} (h : j ≠ b) : val L (up p b) j = val L p j := by unfold val up; rw [if_neg h]
theorem inc_lt {l : List Int} {n i : Nat} (h : Inc l n) (hi : i + 1 < n) : l.getD i 0 < l.getD (i + 1) 0 := h i (by omega)
theorem item_lt {L : List (List Int)} (hi : Incs L) {k b c : Nat} (hb : bk L k = some b) (hc : bk L (k + 1) = some c) : val L (st L k) b < val L (st L (k + 1)) c ∨ (val L (st L k) b = val L (st L (k + 1)) c ∧ b < c) := by
  obtain ⟨b1, b2, b3⟩ := bst_some hb
  obtain ⟨c1, c2, c3⟩ := bst_some hc
  have hs := st_succ_some hb
  rw [hs] at c2 ⊢
  by_cases e : c = b
  · subst e
    left
    unfold val up
    unfold up at c2
    rw [if_pos rfl] at c2 ⊢
    exact inc_lt (hi c b1) c2
  · rw [val_up e]
    have h2 : st L k c < ln L c := by
      unfold up at c2
      rw [if_neg e] at c2
      exact c2
    rcases b3 c c1 h2 with q | q
    · exact Or.inl q
    · exact Or.inr ⟨q.1, by omega⟩
end Mf
