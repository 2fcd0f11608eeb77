/- Plain facts on the calendar, more. -/
import Derived.Test.YtdhlgmclogdplaaDoorCal
namespace Cal
theorem tmod_zero (y : Int) (k : Nat) : (y.tmod k = 0) ↔ (y % k = 0) := by
  constructor
  · intro h; exact Int.emod_eq_zero_of_dvd (Int.dvd_of_tmod_eq_zero h)
  · intro h; exact Int.tmod_eq_zero_of_dvd (Int.dvd_of_emod_eq_zero h)
theorem tmod_beq (y : Int) (k : Nat) : (y.tmod k == 0) = decide (y % k = 0) := by
  rw [Bool.eq_iff_iff, beq_iff_eq, decide_eq_true_iff]; exact tmod_zero y k
theorem dby_eq (y : Int) : 365 * (y - 1970) + ((y - 1) / 4 - (y - 1) / 100 + (y - 1) / 400) - 477 = dby y := by
  unfold dby mar; omega
theorem dby_max : dby 10000 = 2932897 := by decide
theorem date_uniq {y m d n : Int} (h : Valid y m d) (e : num y m d = n) : y = yr n ∧ m = mo n ∧ d = dy n := by
  have := date_of h
  rw [e] at this
  exact ⟨this.1.symm, this.2.1.symm, this.2.2.symm⟩
theorem guess {n : Int} (h0 : 0 ≤ n) (h1 : n ≤ 2932896) : dby (1970 + n / 366) ≤ n := by
  unfold dby mar; omega
end Cal
namespace Cal
theorem dby_bd {y : Int} (h : 1970 ≤ y) (h' : y ≤ 10000) : 0 ≤ dby y ∧ dby y ≤ 2932897 := by
  unfold dby mar; omega
theorem cum_bd (y m : Int) (h1 : 1 ≤ m) (h2 : m ≤ 13) : 0 ≤ cum y m ∧ cum y m ≤ 366 := by
  have a := cum_grows y 1 (by omega) (by omega) (m - 1).toNat (by omega)
  rw [show 1 + ((m - 1).toNat : Int) = m by omega, cum_1] at a
  have b := cum_grows y m h1 h2 (13 - m).toNat (by omega)
  rw [show m + ((13 - m).toNat : Int) = 13 by omega, cum_13] at b
  have := lp_bd y
  omega
end Cal
