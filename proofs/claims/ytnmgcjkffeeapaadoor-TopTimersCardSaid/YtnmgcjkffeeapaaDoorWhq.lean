/- The rows of a timer wheel: moving timers down, and in which order they fire. -/
import Derived.Test.YtnmgcjkffeeapaaDoorWhp
namespace Go.Proofs.YtnmgcjkffeeapaaDoor
namespace Whp
/-- the rows hold just the timers of S, each at the place that c says -/
def WC (c : Nat → Nat) (S : Nat → Bool) (rows : Nat → List Nat) : Prop := ∀ j, (rows j).Nodup ∧ ∀ i, i ∈ rows j ↔ S i = true ∧ c i = j
/-- k timers of row r have been placed anew -/
def mv (t : Nat → Nat) (f : Nat) (rows : Nat → List Nat) (r k : Nat) : Nat → List Nat := fun j => (if j = r then [] else rows j) ++ ((rows r).take k).filter (fun i => loc (t i) f == j)
theorem mv_zero (t : Nat → Nat) (f : Nat) (rows : Nat → List Nat) (r : Nat) : mv t f rows r 0 = fun j => if j = r then [] else rows j := by
  funext j; simp [mv]
theorem mv_succ (t : Nat → Nat) (f : Nat) (rows : Nat → List Nat) (r k : Nat) (h : k < (rows r).length) : mv t f rows r (k + 1) = fun j => if j = loc (t (rows r)[k]) f then mv t f rows r k j ++ [(rows r)[k]] else mv t f rows r k j := by
  funext j
  unfold mv
  rw [List.take_succ_eq_append_getElem h, List.filter_append]
  by_cases e : j = loc (t (rows r)[k]) f
  · rw [if_pos e, ← List.append_assoc]
    congr 1
    simp [e]
  · rw [if_neg e]
    have : (loc (t (rows r)[k]) f == j) = false := beq_eq_false_iff_ne.2 (fun q => e q.symm)
    simp [this]
theorem mv_wc {t : Nat → Nat} {f : Nat} {c : Nat → Nat} {S : Nat → Bool} {rows : Nat → List Nat} (r : Nat) (h : WC c S rows) : WC (fun i => if c i = r then loc (t i) f else c i) S (mv t f rows r (rows r).length) := by
  intro j
  have hr := h r
  have hj := h j
  unfold mv
  rw [List.take_length]
  refine ⟨?_, fun i => ?_⟩
  · rw [List.nodup_append]
    refine ⟨by split <;> simp [hj.1], hr.1.filter _, ?_⟩
    intro a ha b hb e
    subst e
    simp only [List.mem_filter] at hb
    split at ha
    · cases ha
    · rename_i hne
      have h1 := (hj.2 a).1 ha
      have h2 := (hr.2 a).1 hb.1
      omega
  · simp only [List.mem_append, List.mem_filter, beq_iff_eq]
    by_cases e : j = r
    · subst e
      simp only [if_true, List.not_mem_nil, false_or]
      rw [hj.2 i]
      constructor
      · rintro ⟨⟨h1, h2⟩, h3⟩
        exact ⟨h1, by rw [if_pos h2]; exact h3⟩
      · rintro ⟨h1, h2⟩
        by_cases q : c i = j
        · rw [if_pos q] at h2
          exact ⟨⟨h1, q⟩, h2⟩
        · rw [if_neg q] at h2
          exact absurd h2 q
    · simp only [if_neg e]
      rw [hj.2 i, hr.2 i]
      constructor
      · rintro (⟨h1, h2⟩ | ⟨⟨h1, h2⟩, h3⟩)
        · exact ⟨h1, by rw [if_neg (by omega)]; exact h2⟩
        · exact ⟨h1, by rw [if_pos h2]; exact h3⟩
      · rintro ⟨h1, h2⟩
        by_cases q : c i = r
        · rw [if_pos q] at h2
          exact Or.inr ⟨⟨h1, q⟩, h2⟩
        · rw [if_neg q] at h2
          exact Or.inl ⟨h1, h2⟩
theorem WC.congr {c c' : Nat → Nat} {S : Nat → Bool} {rows : Nat → List Nat} (h : WC c S rows) (hc : ∀ i, S i = true → c i = c' i) : WC c' S rows := fun j =>
  ⟨(h j).1, fun i => ((h j).2 i).trans ⟨fun ⟨a, b⟩ => ⟨a, (hc i a) ▸ b⟩, fun ⟨a, b⟩ => ⟨a, (hc i a).trans b⟩⟩⟩
/-- the wheel as it should be, seen from f -/
def WInv (t : Nat → Nat) (f : Nat) (S : Nat → Bool) (rows : Nat → List Nat) : Prop := WC (fun i => loc (t i) f) S rows ∧ ∀ i, S i = true → f ≤ t i
/-- one row moved -/
def mv1 (t : Nat → Nat) (f : Nat) (rows : Nat → List Nat) (r : Nat) : Nat → List Nat := mv t f rows r (rows r).length
/-- what enter does -/
def ent (t : Nat → Nat) (f f' : Nat) (rows : Nat → List Nat) : Nat → List Nat :=
  mv1 t f' (mv1 t f' (mv1 t f' (if f / 16777216 = f' / 16777216 then rows else mv1 t f' rows 256) (192 + f' / 262144 % 64)) (128 + f' / 4096 % 64)) (64 + f' / 64 % 64)
theorem ent_inv {t : Nat → Nat} {f f' : Nat} {S : Nat → Bool} {rows : Nat → List Nat} (h : WInv t f S rows) (hf : f ≤ f') (hS : ∀ i, S i = true → f' ≤ t i) : WInv t f' S (ent t f f' rows) := by
  refine ⟨?_, hS⟩
  obtain ⟨hc, _⟩ := h
  unfold ent mv1
  by_cases e : f / 16777216 = f' / 16777216
  · rw [if_pos e]
    refine (mv_wc (t := t) (f := f') _ (mv_wc (t := t) (f := f') _ (mv_wc (t := t) (f := f') _ hc))).congr fun i hi => ?_
    rcases loc_enter hf (hS i hi) with q | q | q | q | q
    · have : ∀ r : Nat, (if loc (t i) f = r then loc (t i) f' else loc (t i) f) = loc (t i) f' := fun r => by split <;> first | rfl | exact q
      simp only [this, ite_self]
    · exact absurd e q.2
    · simp only [if_pos q, ite_self]
    · by_cases q2 : loc (t i) f = 192 + f' / 262144 % 64
      · simp only [if_pos q2, ite_self]
      · simp only [if_neg q2, if_pos q, ite_self]
    · by_cases q2 : loc (t i) f = 192 + f' / 262144 % 64
      · simp only [if_pos q2, ite_self]
      · by_cases q3 : loc (t i) f = 128 + f' / 4096 % 64
        · simp only [if_neg q2, if_pos q3, ite_self]
        · simp only [if_neg q2, if_neg q3, if_pos q]
  · rw [if_neg e]
    refine (mv_wc (t := t) (f := f') _ (mv_wc (t := t) (f := f') _ (mv_wc (t := t) (f := f') _ (mv_wc (t := t) (f := f') 256 hc)))).congr fun i hi => ?_
    by_cases q1 : loc (t i) f = 256
    · simp only [if_pos q1, ite_self]
    · simp only [if_neg q1]
      rcases loc_enter hf (hS i hi) with q | q | q | q | q
      · have : ∀ r : Nat, (if loc (t i) f = r then loc (t i) f' else loc (t i) f) = loc (t i) f' := fun r => by split <;> first | rfl | exact q
        simp only [this, ite_self]
      · exact absurd q.1 q1
      · simp only [if_pos q, ite_self]
      · by_cases q2 : loc (t i) f = 192 + f' / 262144 % 64
        · simp only [if_pos q2, ite_self]
        · simp only [if_neg q2, if_pos q, ite_self]
      · by_cases q2 : loc (t i) f = 192 + f' / 262144 % 64
        · simp only [if_pos q2, ite_self]
        · by_cases q3 : loc (t i) f = 128 + f' / 4096 % 64
          · simp only [if_neg q2, if_pos q3, ite_self]
          · simp only [if_neg q2, if_neg q3, if_pos q]
end Whp
end Go.Proofs.YtnmgcjkffeeapaaDoor
