/- Plain facts: the order of civil times and of their texts, the calendar's cycle. No program in sight. -/
import Derived.Test.YtdhlgmclogdplaaDoorCalB
import Derived.Laws.BytesArg
set_option linter.unusedSimpArgs false
set_option linter.unusedVariables false
namespace Cal
/-- the order of two lists of numbers, as slices.Compare has it -/
def cmpL : List Int → List Int → Int
  | a :: l, b :: m => if a < b then -1 else if b < a then 1 else cmpL l m
  | [], [] => 0
  | [], _ :: _ => -1
  | _ :: _, [] => 1
theorem cmpL_range : ∀ l m : List Int, cmpL l m = -1 ∨ cmpL l m = 0 ∨ cmpL l m = 1
  | [], [] => by simp [cmpL]
  | [], _ :: _ => by simp [cmpL]
  | _ :: _, [] => by simp [cmpL]
  | a :: l, b :: m => by
    have := cmpL_range l m
    simp only [cmpL]
    split
    · simp
    · split
      · simp
      · exact this
theorem cmpL_swap : ∀ l m : List Int, cmpL m l = - cmpL l m
  | [], [] => by simp [cmpL]
  | [], _ :: _ => by simp [cmpL]
  | _ :: _, [] => by simp [cmpL]
  | a :: l, b :: m => by
    have := cmpL_swap l m
    simp only [cmpL]
    by_cases h1 : a < b
    · rw [if_neg (by omega), if_pos h1, if_pos h1]; rfl
    · by_cases h2 : b < a
      · rw [if_pos h2, if_neg h1, if_pos h2]
      · rw [if_neg h2, if_neg h1, if_neg h1, if_neg h2]; exact this
theorem cmpL_self (l : List Int) : cmpL l l = 0 := by have := cmpL_swap l l; omega
theorem cmpL_zero : ∀ l m : List Int, cmpL l m = 0 → l = m
  | [], [] => by simp [cmpL]
  | [], _ :: _ => by simp [cmpL]
  | _ :: _, [] => by simp [cmpL]
  | a :: l, b :: m => by
    have := cmpL_zero l m
    simp only [cmpL]
    split
    · simp
    · split
      · simp
      · intro h; rw [this h, show a = b by omega]
theorem cmpL_iff (l m : List Int) : cmpL l m = 0 ↔ l = m := ⟨cmpL_zero l m, fun h => by rw [h]; exact cmpL_self m⟩
theorem cmpL_le : ∀ l m k : List Int, cmpL l m ≤ 0 → cmpL m k ≤ 0 → cmpL l k ≤ 0 ∧ ((cmpL l m = -1 ∨ cmpL m k = -1) → cmpL l k = -1)
  | [], [], [] => by simp [cmpL]
  | [], [], _ :: _ => by simp [cmpL]
  | [], _ :: _, [] => by simp [cmpL]
  | [], _ :: _, _ :: _ => by simp [cmpL]
  | _ :: _, [], _ => by simp [cmpL]
  | _ :: _, _ :: _, [] => by simp [cmpL]
  | a :: l, b :: m, c :: k => by
    have ih := cmpL_le l m k
    have r1 := cmpL_range l m
    have r2 := cmpL_range m k
    have r3 := cmpL_range l k
    simp only [cmpL]
    intro h1 h2
    by_cases x1 : a < b
    · by_cases x2 : c < b
      · rw [if_neg (by omega), if_pos x2] at h2; omega
      · rw [if_pos (show a < c by omega)]; simp
    · by_cases x3 : b < a
      · rw [if_neg x1, if_pos x3] at h1; omega
      · obtain rfl : a = b := by omega
        by_cases x4 : a < c
        · rw [if_pos x4]; simp
        · by_cases x5 : c < a
          · rw [if_neg x4, if_pos x5] at h2; omega
          · obtain rfl : a = c := by omega
            simp only [Int.lt_irrefl, if_false] at h1 h2 ⊢
            exact ih h1 h2
/-- the fields of a civil time -/
abbrev fl (y m d h i s : Int) : List Int := [y, m, d, h, i, s]
theorem fl_inj {y m d h i s y' m' d' h' i' s' : Int} (e : fl y m d h i s = fl y' m' d' h' i' s') : y = y' ∧ m = m' ∧ d = d' ∧ h = h' ∧ i = i' ∧ s = s' := by
  simpa [fl] using e
theorem secs_lt {y m d h i s y' m' d' h' i' s' : Int} (g : Good y m d h i s) (g' : Good y' m' d' h' i' s') (e : cmpL (fl y m d h i s) (fl y' m' d' h' i' s') = -1) : secs y m d h i s < secs y' m' d' h' i' s' := by
  obtain ⟨v, a1, a2, a3, a4, a5, a6⟩ := g
  obtain ⟨v', b1, b2, b3, b4, b5, b6⟩ := g'
  unfold secs
  simp only [fl, cmpL] at e
  by_cases x1 : y < y'
  · have := num_lt_of_year v v' x1; omega
  · rw [if_neg x1] at e
    by_cases x2 : y' < y
    · rw [if_pos x2] at e; omega
    · rw [if_neg x2] at e
      obtain rfl : y = y' := by omega
      by_cases x3 : m < m'
      · have := num_lt_of_month v v' x3; omega
      · rw [if_neg x3] at e
        by_cases x4 : m' < m
        · rw [if_pos x4] at e; omega
        · rw [if_neg x4] at e
          obtain rfl : m = m' := by omega
          have n1 : num y m d = dby y + cum y m + d - 1 := rfl
          have n2 : num y m d' = dby y + cum y m + d' - 1 := rfl
          (repeat' split at e) <;> omega
/-- the fields of a time -/
abbrev ft (t : Int) : List Int := fl (cY t) (cM t) (cD t) (cH t) (cI t) (cS t)
theorem order_of {t u : Int} (ht : timeOk t) (hu : timeOk u) : cmpL (ft t) (ft u) = if t < u then -1 else if u < t then 1 else 0 := by
  have g := good_of ht
  have g' := good_of hu
  rcases cmpL_range (ft t) (ft u) with h | h | h
  · have := secs_lt g.1 g'.1 h
    rw [g.2, g'.2] at this
    rw [h, if_pos this]
  · have e := fl_inj (cmpL_zero _ _ h)
    obtain ⟨e1, e2, e3, e4, e5, e6⟩ := e
    have q := g.2
    rw [e1, e2, e3, e4, e5, e6, g'.2] at q
    rw [h, if_neg (by omega), if_neg (by omega)]
  · have h2 : cmpL (ft u) (ft t) = -1 := by rw [cmpL_swap, h]
    have := secs_lt g'.1 g.1 h2
    rw [g.2, g'.2] at this
    rw [h, if_neg (by omega), if_pos this]
/-! ### the bytes of a text -/
/-- the bytes of a text, as numbers -/
def tl (y m d h i s : Int) : List Int := [48 + y / 1000, 48 + y / 100 % 10, 48 + y / 10 % 10, 48 + y % 10, 45, 48 + m / 10, 48 + m % 10, 45, 48 + d / 10, 48 + d % 10, 32, 48 + h / 10, 48 + h % 10, 58, 48 + i / 10, 48 + i % 10, 58, 48 + s / 10, 48 + s % 10]
theorem cmp4 (y z : Int) (hy : 0 ≤ y ∧ y ≤ 9999) (hz : 0 ≤ z ∧ z ≤ 9999) (l m : List Int) : cmpL ((48 + y / 1000) :: (48 + y / 100 % 10) :: (48 + y / 10 % 10) :: (48 + y % 10) :: l) ((48 + z / 1000) :: (48 + z / 100 % 10) :: (48 + z / 10 % 10) :: (48 + z % 10) :: m) = if y < z then -1 else if z < y then 1 else cmpL l m := by
  simp only [cmpL]
  by_cases h1 : y < z
  · rw [if_pos h1]
    (repeat' split) <;> first | rfl | (exfalso; omega)
  · rw [if_neg h1]
    by_cases h2 : z < y
    · rw [if_pos h2]
      (repeat' split) <;> first | rfl | (exfalso; omega)
    · obtain rfl : y = z := by omega
      simp only [Int.lt_irrefl, if_false]
theorem cmp2 (y z : Int) (hy : 0 ≤ y ∧ y ≤ 99) (hz : 0 ≤ z ∧ z ≤ 99) (l m : List Int) : cmpL ((48 + y / 10) :: (48 + y % 10) :: l) ((48 + z / 10) :: (48 + z % 10) :: m) = if y < z then -1 else if z < y then 1 else cmpL l m := by
  simp only [cmpL]
  by_cases h1 : y < z
  · rw [if_pos h1]
    (repeat' split) <;> first | rfl | (exfalso; omega)
  · rw [if_neg h1]
    by_cases h2 : z < y
    · rw [if_pos h2]
      (repeat' split) <;> first | rfl | (exfalso; omega)
    · obtain rfl : y = z := by omega
      simp only [Int.lt_irrefl, if_false]
theorem cmp1 (a : Int) (l m : List Int) : cmpL (a :: l) (a :: m) = cmpL l m := by
  simp only [cmpL, Int.lt_irrefl, if_false]
theorem tl_cmp {t u : Int} (ht : timeOk t) (hu : timeOk u) : cmpL (tl (cY t) (cM t) (cD t) (cH t) (cI t) (cS t)) (tl (cY u) (cM u) (cD u) (cH u) (cI u) (cS u)) = cmpL (ft t) (ft u) := by
  obtain ⟨a1, a2, a3, a4, a5, a6, a7, a8, a9, a10, a11, a12⟩ := c_bd ht
  obtain ⟨b1, b2, b3, b4, b5, b6, b7, b8, b9, b10, b11, b12⟩ := c_bd hu
  unfold tl
  rw [cmp4 (cY t) (cY u) (by omega) (by omega), cmp1, cmp2 (cM t) (cM u) (by omega) (by omega), cmp1, cmp2 (cD t) (cD u) (by omega) (by omega), cmp1, cmp2 (cH t) (cH u) (by omega) (by omega), cmp1, cmp2 (cI t) (cI u) (by omega) (by omega), cmp1, cmp2 (cS t) (cS u) (by omega) (by omega)]
  simp only [ft, fl, cmpL]
/-- every byte is one -/
def Byt (l : List Int) : Prop := ∀ x ∈ l, 0 ≤ x ∧ x < 256
theorem tl_byt {t : Int} (ht : timeOk t) : Byt (tl (cY t) (cM t) (cD t) (cH t) (cI t) (cS t)) := by
  obtain ⟨a1, a2, a3, a4, a5, a6, a7, a8, a9, a10, a11, a12⟩ := c_bd ht
  intro x hx
  simp only [tl, List.mem_cons, List.not_mem_nil, or_false] at hx
  omega
theorem bytesLess_cmpL : ∀ l m : List Int, Byt l → Byt m → Go.Op.bytesLess (l.map fun n => UInt8.ofNat n.toNat) (m.map fun n => UInt8.ofNat n.toNat) = decide (cmpL l m = -1)
  | [], [], _, _ => by simp [cmpL, Go.Op.bytesLess]
  | [], _ :: _, _, _ => by simp [cmpL, Go.Op.bytesLess]
  | _ :: _, [], _, _ => by simp [cmpL, Go.Op.bytesLess]
  | a :: l, b :: m, hl, hm => by
    have ih := bytesLess_cmpL l m (fun x hx => hl x (List.mem_cons_of_mem _ hx)) (fun x hx => hm x (List.mem_cons_of_mem _ hx))
    have ha := hl a List.mem_cons_self
    have hb := hm b List.mem_cons_self
    simp only [List.map_cons, Go.Op.bytesLess, cmpL, ih]
    have e1 : (UInt8.ofNat a.toNat < UInt8.ofNat b.toNat) ↔ a < b := by
      rw [UInt8.lt_iff_toNat_lt]
      simp
      omega
    have e2 : (UInt8.ofNat a.toNat == UInt8.ofNat b.toNat) = decide (a = b) := by
      rw [Bool.eq_iff_iff, beq_iff_eq, decide_eq_true_iff]
      constructor
      · intro e
        have e2 := congrArg UInt8.toNat e
        simp at e2
        omega
      · intro e; rw [e]
    simp only [e1, e2]
    by_cases h1 : a < b
    · simp [h1]
    · by_cases h2 : b < a
      · simp [h1, h2, show ¬ a = b by omega]
      · simp [show a = b by omega]
/-! ### the cycle of 400 years -/
theorem cycle_days (n : Int) : yr (n + 146097) = yr n + 400 ∧ mo (n + 146097) = mo n ∧ dy (n + 146097) = dy n := by
  have e1 : (n + 146097 + 719468) % 146097 = (n + 719468) % 146097 := by omega
  have e2 : cyc (n + 146097) = cyc n + 1 := by unfold cyc; omega
  have e3 : yrs (n + 146097) = yrs n := by unfold yrs; rw [e1]
  have e4 : rst (n + 146097) = rst n := by unfold rst; rw [e1, e3]
  have e5 : mon (n + 146097) = mon n := by unfold mon; rw [e4]
  unfold yr mo dy
  rw [e2, e3, e4, e5]
  refine ⟨?_, rfl, rfl⟩
  split <;> omega
theorem cycle (t : Int) : cY (t + 12622780800) = cY t + 400 ∧ cM (t + 12622780800) = cM t ∧ cD (t + 12622780800) = cD t ∧ cH (t + 12622780800) = cH t ∧ cI (t + 12622780800) = cI t ∧ cS (t + 12622780800) = cS t := by
  have e1 : (t + 12622780800) / 86400 = t / 86400 + 146097 := by omega
  have e2 : (t + 12622780800) % 86400 = t % 86400 := by omega
  have c := cycle_days (t / 86400)
  unfold cY cM cD cH cI cS
  rw [e1, e2]
  exact ⟨c.1, c.2.1, c.2.2, rfl, rfl, rfl⟩
/-! ### months -/
theorem num_next {y m : Int} (h1 : 1 ≤ m) (h2 : m ≤ 11) : num y (m + 1) 1 = num y m 1 + dim y m := by
  have := cum_succ y m h1 (by omega)
  unfold num; omega
theorem num_turn (y : Int) : num (y + 1) 1 1 = num y 12 1 + dim y 12 := by
  have a := dby_succ y
  have b := cum_succ y 12 (by omega) (by omega)
  have c := cum_13 y
  have d := cum_1 (y + 1)
  rw [show (12 : Int) + 1 = 13 from rfl] at b
  unfold num; omega
theorem num_last (y m : Int) : num y m (dim y m) = num y m 1 + dim y m - 1 := by unfold num; omega
theorem num_year (y : Int) : num y 12 31 - num y 1 1 + 1 = 365 + lp y := by
  have b := cum_succ y 12 (by omega) (by omega)
  have c := cum_13 y
  have d := cum_1 y
  have e : dim y 12 = 31 := rfl
  rw [show (12 : Int) + 1 = 13 from rfl] at b
  unfold num; omega
theorem dim_lt (y m : Int) : dim y m < dim y m + 1 := by omega
end Cal
