/- Plain facts on misfire policies and lists of times. No program in sight. -/
namespace Mf
/-- the error of a policy -/
def chkE (p k : Int) : Int := if (0 ≤ p ∧ p ≤ 2 ∧ k = 0) ∨ (p = 3 ∧ 1 ≤ k ∧ k ≤ 100) then 0 else 2
/-- how many of n times a policy keeps -/
def kept (p k n : Int) : Int := if p = 0 then 0 else if p = 1 then min n 1 else if p = 2 then n else min n k
/-- no bad time among the first k -/
def NoBad (l : List Int) (k : Nat) : Prop := ∀ i, i < k → 0 ≤ l.getD i 0 ∧ l.getD i 0 ≤ 253402300799
/-- the first k increase -/
def Inc (l : List Int) (k : Nat) : Prop := ∀ i, i < k - 1 → l.getD i 0 < l.getD (i + 1) 0
instance (l : List Int) (k : Nat) : Decidable (NoBad l k) := by unfold NoBad; infer_instance
instance (l : List Int) (k : Nat) : Decidable (Inc l k) := by unfold Inc; infer_instance
/-- the error of a list -/
def listE (l : List Int) : Int := if 100000 < l.length then 12 else if NoBad l l.length then (if Inc l l.length then 0 else 8) else 14
theorem listE_vals (l : List Int) : listE l = 0 ∨ listE l = 8 ∨ listE l = 12 ∨ listE l = 14 := by
  unfold listE; (repeat' split) <;> simp
theorem listE_zero {l : List Int} (h : listE l = 0) : l.length ≤ 100000 ∧ NoBad l l.length ∧ Inc l l.length := by
  unfold listE at h
  split at h
  · omega
  · split at h
    · split at h
      · exact ⟨by omega, by assumption, by assumption⟩
      · omega
    · omega
theorem listE_many {l : List Int} (h : 100000 < l.length) : listE l = 12 := if_pos h
theorem listE_bad {l : List Int} (h : l.length ≤ 100000) (h2 : ¬ NoBad l l.length) : listE l = 14 := by
  unfold listE; rw [if_neg (by omega), if_neg h2]
theorem listE_end {l : List Int} (h : l.length ≤ 100000) (h2 : NoBad l l.length) : listE l = if Inc l l.length then 0 else 8 := by
  unfold listE; rw [if_neg (by omega), if_pos h2]
theorem noBad_succ {l : List Int} {k : Nat} (h : NoBad l k) (h2 : 0 ≤ l.getD k 0 ∧ l.getD k 0 ≤ 253402300799) : NoBad l (k + 1) := by
  intro i hi
  rcases Nat.lt_or_ge i k with g | g
  · exact h i g
  · obtain rfl : i = k := by omega
    exact h2
theorem not_noBad {l : List Int} {k n : Nat} (hk : k < n) (h : ¬ (0 ≤ l.getD k 0 ∧ l.getD k 0 ≤ 253402300799)) : ¬ NoBad l n := fun g => h (g k hk)
theorem inc_zero (l : List Int) : Inc l 0 := fun i hi => by omega
theorem inc_one (l : List Int) : Inc l 1 := fun i hi => by omega
theorem inc_succ {l : List Int} {k : Nat} : Inc l (k + 1 + 1) ↔ (Inc l (k + 1) ∧ l.getD k 0 < l.getD (k + 1) 0) := by
  constructor
  · intro h
    exact ⟨fun i hi => h i (by omega), h k (by omega)⟩
  · rintro ⟨h, g⟩ i hi
    rcases Nat.lt_or_ge i k with q | q
    · exact h i (by omega)
    · obtain rfl : i = k := by omega
      exact g
/-- the error so far -/
def incE (l : List Int) (k : Nat) : Int := if Inc l k then 0 else 8
theorem incE_zero (l : List Int) : incE l 0 = 0 := if_pos (inc_zero l)
theorem incE_first (l : List Int) : incE l 1 = 0 := if_pos (inc_one l)
theorem incE_up {l : List Int} {k : Nat} (h : l.getD k 0 < l.getD (k + 1) 0) : incE l (k + 1 + 1) = incE l (k + 1) := by
  unfold incE; simp only [inc_succ, h, and_true]
theorem incE_down {l : List Int} {k : Nat} (h : ¬ l.getD k 0 < l.getD (k + 1) 0) : incE l (k + 1 + 1) = 8 := by
  unfold incE; simp only [inc_succ, h, and_false, if_false]
theorem incE_vals (l : List Int) (k : Nat) : incE l k = 0 ∨ incE l k = 8 := by unfold incE; split <;> simp
theorem listE_incE {l : List Int} (h : l.length ≤ 100000) (h2 : NoBad l l.length) : listE l = incE l l.length := listE_end h h2
theorem inc_mono {l : List Int} {k n : Nat} (h : Inc l n) (hk : k ≤ n) : Inc l k := fun i hi => h i (by omega)
theorem listE_down {l : List Int} {k : Nat} (h : l.length ≤ 100000) (h2 : NoBad l l.length) (hk : k + 1 < l.length) (hd : ¬ l.getD k 0 < l.getD (k + 1) 0) : listE l = 8 := by
  rw [listE_end h h2, if_neg]
  intro g
  exact hd (g k (by omega))
/-- the first error of two -/
def or2 (a b : Int) : Int := if a = 0 then b else a
def or3 (a b c : Int) : Int := if a = 0 then (if b = 0 then c else b) else a
end Mf
