/- Plain facts on the order of several lists: its error, its list. No program in sight. -/
import Derived.Test.YtadfdkhgjjehnaaDoorMgp
namespace Mf
/-- the first error of the first k lists -/
def errTo (L : List (List Int)) : Nat → Int
  | 0 => 0
  | k + 1 => or2 (errTo L k) (listE (row L k))
def ordE (L : List (List Int)) : Int := if 64 < L.length then 12 else if errTo L L.length = 0 then (if 100000 < tot L then 12 else 0) else errTo L L.length
def ordM (L : List (List Int)) : List (Int × Int) := if ordE L = 0 then mrg L else []
theorem errTo_stay {L : List (List Int)} {k : Nat} (h : errTo L k ≠ 0) : ∀ n, k ≤ n → errTo L n = errTo L k
  | 0, hn => by obtain rfl : k = 0 := by omega
                rfl
  | n + 1, hn => by
    rcases Nat.lt_or_ge n k with q | q
    · obtain rfl : k = n + 1 := by omega
      rfl
    · have ih := errTo_stay h n q
      simp only [errTo]
      rw [ih]
      unfold or2; rw [if_neg h]
theorem errTo_ok {L : List (List Int)} {k : Nat} (h : errTo L k = 0) : errTo L (k + 1) = listE (row L k) := by simp only [errTo]; rw [h]; rfl
theorem errTo_zero {L : List (List Int)} : ∀ {n : Nat}, errTo L n = 0 → ∀ i, i < n → listE (row L i) = 0
  | 0, _, i, hi => by omega
  | n + 1, h, i, hi => by
    have h1 : errTo L n = 0 := by
      by_cases q : errTo L n = 0
      · exact q
      · rw [errTo_stay q (n + 1) (by omega)] at h; exact absurd h q
    rcases Nat.lt_or_ge i n with q | q
    · exact errTo_zero h1 i q
    · obtain rfl : i = n := by omega
      rw [errTo_ok h1] at h; exact h
theorem ordE_many {L : List (List Int)} (h : 64 < L.length) : ordE L = 12 := if_pos h
theorem ordE_err {L : List (List Int)} {k : Nat} (h : L.length ≤ 64) (hk : k < L.length) (h0 : errTo L k = 0) (h1 : listE (row L k) ≠ 0) : ordE L = listE (row L k) := by
  have e : errTo L (k + 1) = listE (row L k) := errTo_ok h0
  have e2 : errTo L L.length = listE (row L k) := by rw [errTo_stay (k := k + 1) (by rw [e]; exact h1) L.length hk, e]
  unfold ordE
  rw [if_neg (by omega), e2, if_neg h1]
theorem ordE_end {L : List (List Int)} (h : L.length ≤ 64) (h0 : errTo L L.length = 0) : ordE L = if 100000 < tot L then 12 else 0 := by
  unfold ordE
  rw [if_neg (by omega), if_pos h0]
theorem ordE_big {L : List (List Int)} (h : L.length ≤ 64) (h0 : errTo L L.length = 0) (ht : 100000 < tot L) : ordE L = 12 := by rw [ordE_end h h0, if_pos ht]
theorem ordE_ok {L : List (List Int)} (h : L.length ≤ 64) (h0 : errTo L L.length = 0) (ht : tot L ≤ 100000) : ordE L = 0 := by rw [ordE_end h h0, if_neg (by omega)]
theorem ordE_zero {L : List (List Int)} (h : ordE L = 0) : L.length ≤ 64 ∧ errTo L L.length = 0 ∧ tot L ≤ 100000 := by
  unfold ordE at h
  split at h
  · omega
  · split at h
    · split at h
      · omega
      · exact ⟨by omega, by assumption, by omega⟩
    · contradiction
theorem ordM_ok {L : List (List Int)} (h : ordE L = 0) : ordM L = mrg L := if_pos h
theorem ordM_err {L : List (List Int)} (h : ordE L ≠ 0) : ordM L = [] := if_neg h
theorem mrg_len (L : List (List Int)) : (mrg L).length = tot L := upto_len L _
theorem mrg_nil : mrg [] = [] := rfl
theorem sumTo_bd {f : Nat → Nat} {B : Nat} : ∀ {n : Nat}, (∀ j, j < n → f j ≤ B) → sumTo f n ≤ n * B
  | 0, _ => by simp [sumTo]
  | n + 1, h => by
    have := sumTo_bd (n := n) (fun j hj => h j (by omega))
    have h2 := h n (by omega)
    simp only [sumTo]
    rw [Nat.add_mul]; omega
theorem sumTo_le {f : Nat → Nat} : ∀ {n k : Nat}, k ≤ n → sumTo f k ≤ sumTo f n
  | 0, k, h => by obtain rfl : k = 0 := by omega
                  exact Nat.le_refl _
  | n + 1, k, h => by
    rcases Nat.lt_or_ge n k with q | q
    · obtain rfl : k = n + 1 := by omega
      exact Nat.le_refl _
    · have := sumTo_le (f := f) q
      simp only [sumTo]; omega
end Mf
