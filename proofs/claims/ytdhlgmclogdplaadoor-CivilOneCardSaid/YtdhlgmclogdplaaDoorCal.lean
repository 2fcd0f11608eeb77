/- Plain facts on the Gregorian calendar: dates and numbers of days. No program in sight. -/
namespace Cal
def fN (d : Nat) : Nat := d - d / 1460 + d / 36524 - d / 146096
def baseN (y : Nat) : Nat := 365 * y + y / 4 - y / 100 + y / 400
theorem f_step (d : Nat) : fN d ≤ fN (d + 1) := by unfold fN; omega
theorem f_mono {d e : Nat} (h : d ≤ e) : fN d ≤ fN e := by
  obtain ⟨k, rfl⟩ := Nat.exists_eq_add_of_le h
  induction k with
  | zero => exact Nat.le_refl _
  | succ k ih => exact Nat.le_trans (ih (by omega)) (f_step _)
theorem f_ends : ((List.range 400).all fun y => Nat.ble (365 * y) (fN (baseN y)) && Nat.blt (fN (baseN (y + 1) - 1)) (365 * (y + 1))) = true := by decide +kernel
theorem f_end {y : Nat} (h : y < 400) : 365 * y ≤ fN (baseN y) ∧ fN (baseN (y + 1) - 1) < 365 * (y + 1) := by
  have := f_ends
  simp only [List.all_eq_true, List.mem_range] at this
  have := this y h
  simp only [Bool.and_eq_true, Nat.ble_eq, Nat.blt_eq] at this
  exact this
theorem year_ex (d : Nat) : ∀ k : Nat, d < baseN k → ∃ y, y < k ∧ baseN y ≤ d ∧ d < baseN (y + 1)
  | 0, h => by simp [baseN] at h
  | k + 1, h => by
    by_cases hk : d < baseN k
    · obtain ⟨y, a, b, c⟩ := year_ex d k hk
      exact ⟨y, by omega, b, c⟩
    · exact ⟨k, by omega, by omega, h⟩
theorem yof (d : Nat) (h : d < 146097) : fN d / 365 < 400 ∧ baseN (fN d / 365) ≤ d ∧ d < baseN (fN d / 365 + 1) := by
  obtain ⟨y, hy, h1, h2⟩ := year_ex d 400 (by simpa [baseN] using h)
  obtain ⟨a, b⟩ := f_end hy
  have c := f_mono h1
  have e := f_mono (show d ≤ baseN (y + 1) - 1 by omega)
  have : fN d / 365 = y := by omega
  rw [this]; exact ⟨hy, h1, h2⟩
end Cal
namespace Cal
/-! ### leap years, lengths of months, numbers of days -/
def leap (y : Int) : Bool := decide (y % 4 = 0) && (!decide (y % 100 = 0) || decide (y % 400 = 0))
def lp (y : Int) : Int := if leap y then 1 else 0
theorem lp_cases (y : Int) : (lp y = 1 ∧ y % 4 = 0 ∧ (y % 100 ≠ 0 ∨ y % 400 = 0)) ∨ (lp y = 0 ∧ (y % 4 ≠ 0 ∨ (y % 100 = 0 ∧ y % 400 ≠ 0))) := by
  unfold lp leap
  by_cases h1 : y % 4 = 0 <;> by_cases h2 : y % 100 = 0 <;> by_cases h3 : y % 400 = 0 <;> simp [h1, h2, h3]
/-- days from 0000-03-01 to March 1 of a year -/
def mar (y : Int) : Int := 365 * y + y / 4 - y / 100 + y / 400
theorem mar_step (y : Int) : mar y = mar (y - 1) + 365 + lp y := by
  rcases lp_cases y with ⟨e, _⟩ | ⟨e, _⟩ <;> rw [e] <;> unfold mar <;> omega
theorem mar_mono {y z : Int} (h : y < z) : mar y + 365 ≤ mar z := by unfold mar; omega
theorem mar_cycle (c y : Int) : mar (400 * c + y) = 146097 * c + mar y := by
  have h1 : (400 * c + y) / 4 = 100 * c + y / 4 := by omega
  have h2 : (400 * c + y) / 100 = 4 * c + y / 100 := by omega
  have h3 : (400 * c + y) / 400 = c + y / 400 := by omega
  unfold mar; rw [h1, h2, h3]; omega
def dby (y : Int) : Int := mar (y - 1) - 719162
def cum (y m : Int) : Int := if m ≤ 2 then 31 * (m - 1) else 59 + lp y + (153 * (m - 3) + 2) / 5
def dim (y m : Int) : Int := if m = 2 then 28 + lp y else if m = 4 ∨ m = 6 ∨ m = 9 ∨ m = 11 then 30 else 31
def num (y m d : Int) : Int := dby y + cum y m + d - 1
def Valid (y m d : Int) : Prop := 1970 ≤ y ∧ y ≤ 9999 ∧ 1 ≤ m ∧ m ≤ 12 ∧ 1 ≤ d ∧ d ≤ dim y m
instance (y m d : Int) : Decidable (Valid y m d) := by unfold Valid; infer_instance
theorem lp_bd (y : Int) : 0 ≤ lp y ∧ lp y ≤ 1 := by rcases lp_cases y with ⟨e, _⟩ | ⟨e, _⟩ <;> omega
theorem dby_succ (y : Int) : dby (y + 1) = dby y + 365 + lp y := by
  have := mar_step y; unfold dby; rw [show y + 1 - 1 = y by omega]; omega
theorem month_cases {m : Int} (h1 : 1 ≤ m) (h2 : m ≤ 12) : m = 1 ∨ m = 2 ∨ m = 3 ∨ m = 4 ∨ m = 5 ∨ m = 6 ∨ m = 7 ∨ m = 8 ∨ m = 9 ∨ m = 10 ∨ m = 11 ∨ m = 12 := by omega
theorem cum_succ (y m : Int) (h1 : 1 ≤ m) (h2 : m ≤ 12) : cum y (m + 1) = cum y m + dim y m := by
  rcases month_cases h1 h2 with h | h | h | h | h | h | h | h | h | h | h | h <;> subst h <;> simp [cum, dim] <;> omega
theorem cum_13 (y : Int) : cum y 13 = 365 + lp y := by
  unfold cum; rw [if_neg (by omega)]; omega
theorem cum_1 (y : Int) : cum y 1 = 0 := by unfold cum; rfl
theorem dim_bd (y m : Int) : 28 ≤ dim y m ∧ dim y m ≤ 31 := by
  have := lp_bd y
  unfold dim; (repeat' split) <;> omega
theorem cum_grows (y m : Int) (h1 : 1 ≤ m) (h2 : m ≤ 13) : ∀ k : Nat, m + k ≤ 13 → cum y m ≤ cum y (m + k)
  | 0, _ => by simp
  | k + 1, h => by
    have := cum_grows y m h1 h2 k (by omega)
    have e := cum_succ y (m + k) (by omega) (by omega)
    have := dim_bd y (m + k)
    rw [show m + ((k + 1 : Nat) : Int) = m + k + 1 by omega]; omega
theorem cum_mono (y : Int) {m k : Int} (h1 : 1 ≤ m) (h2 : m < k) (h3 : k ≤ 13) : cum y m + dim y m ≤ cum y k := by
  have := cum_succ y m h1 (by omega)
  have h := cum_grows y (m + 1) (by omega) (by omega) (k - m - 1).toNat (by omega)
  rw [show m + 1 + ((k - m - 1).toNat : Int) = k by omega] at h; omega
theorem dby_mono {y z : Int} (h : y < z) : dby y + 365 + lp y ≤ dby z := by
  have := dby_succ y
  by_cases e : z = y + 1
  · subst e; omega
  · have := mar_mono (show y < z - 1 by omega); unfold dby at *; rw [show y + 1 - 1 = y by omega] at *; omega
/-- a valid date lies within its year -/
theorem num_bd {y m d : Int} (h : Valid y m d) : dby y ≤ num y m d ∧ num y m d < dby y + 365 + lp y := by
  obtain ⟨_, _, a, b, c, e⟩ := h
  unfold num
  have h13 := cum_mono y a (show m < 13 by omega) (by omega)
  rw [cum_13] at h13
  have : 0 ≤ cum y m := by
    have := cum_grows y 1 (by omega) (by omega) (m - 1).toNat (by omega)
    rw [show 1 + ((m - 1).toNat : Int) = m by omega, cum_1] at this; exact this
  constructor <;> omega
theorem num_lt_of_year {y m d z k e : Int} (h : Valid y m d) (h' : Valid z k e) (hy : y < z) : num y m d < num z k e := by
  have := (num_bd h).2; have := (num_bd h').1; have := dby_mono hy; omega
theorem num_lt_of_month {y m d k e : Int} (h : Valid y m d) (h' : Valid y k e) (hm : m < k) : num y m d < num y k e := by
  obtain ⟨_, _, a, b, c, g⟩ := h
  obtain ⟨_, _, a', b', c', g'⟩ := h'
  have := cum_mono y a hm (by omega)
  unfold num; omega
theorem num_inj {y m d z k e : Int} (h : Valid y m d) (h' : Valid z k e) (hn : num y m d = num z k e) : y = z ∧ m = k ∧ d = e := by
  have hy : y = z := by
    rcases Int.lt_trichotomy y z with h1 | h1 | h1
    · have := num_lt_of_year h h' h1; omega
    · exact h1
    · have := num_lt_of_year h' h h1; omega
  subst hy
  have hm : m = k := by
    rcases Int.lt_trichotomy m k with h1 | h1 | h1
    · have := num_lt_of_month h h' h1; omega
    · exact h1
    · have := num_lt_of_month h' h h1; omega
  subst hm
  unfold num at hn
  exact ⟨rfl, rfl, by omega⟩
theorem num_range {y m d : Int} (h : Valid y m d) : 0 ≤ num y m d ∧ num y m d ≤ 2932896 := by
  have b := num_bd h
  obtain ⟨h1, h2, _⟩ := h
  have e0 : dby 1970 = 0 := by decide
  have e1 : dby 10000 = 2932897 := by decide
  constructor
  · by_cases hy : y = 1970
    · subst hy; omega
    · have := dby_mono (show 1970 < y by omega); have : 0 ≤ lp 1970 := by decide
      omega
  · by_cases hy : y = 9999
    · subst hy; have := dby_succ 9999; rw [show (9999 : Int) + 1 = 10000 from rfl] at this; omega
    · have := dby_mono (show y < 9999 by omega)
      have e2 : dby 9999 = 2932532 := by decide
      omega
/-! ### the date of a day, as the program reckons it -/
def cyc (n : Int) : Int := (n + 719468) / 146097
def yrs (n : Int) : Int := ((n + 719468) % 146097 - (n + 719468) % 146097 / 1460 + (n + 719468) % 146097 / 36524 - (n + 719468) % 146097 / 146096) / 365
def rst (n : Int) : Int := (n + 719468) % 146097 - (365 * yrs n + yrs n / 4 - yrs n / 100)
def mon (n : Int) : Int := (5 * rst n + 2) / 153
def dy (n : Int) : Int := rst n - (153 * mon n + 2) / 5 + 1
def yr (n : Int) : Int := if 9 < mon n then 400 * cyc n + yrs n + 1 else 400 * cyc n + yrs n
def mo (n : Int) : Int := if 9 < mon n then mon n - 9 else mon n + 3
theorem yrs_bd (n : Int) : 0 ≤ yrs n ∧ yrs n ≤ 399 ∧ 0 ≤ rst n ∧ mar (yrs n) ≤ (n + 719468) % 146097 ∧ (n + 719468) % 146097 < mar (yrs n + 1) ∧ rst n = (n + 719468) % 146097 - mar (yrs n) := by
  have h := yof ((n + 719468) % 146097).toNat (by omega)
  have e : ((fN ((n + 719468) % 146097).toNat / 365 : Nat) : Int) = yrs n := by
    unfold fN yrs; omega
  have t : (((n + 719468) % 146097).toNat : Int) = (n + 719468) % 146097 := by omega
  have r : rst n = (n + 719468) % 146097 - (365 * yrs n + yrs n / 4 - yrs n / 100) := rfl
  generalize fN ((n + 719468) % 146097).toNat / 365 = k at *
  generalize (n + 719468) % 146097 = x at *
  generalize hx : x.toNat = z at *
  subst t
  unfold baseN at h
  rw [r, ← e]
  unfold mar
  have e4 : (k : Int) / 400 = 0 := by omega
  rw [e4]
  obtain ⟨a, b, c⟩ := h
  have b' : ((365 * k + k / 4 - k / 100 + k / 400 : Nat) : Int) ≤ z := by exact_mod_cast b
  have c' : (z : Int) < ((365 * (k + 1) + (k + 1) / 4 - (k + 1) / 100 + (k + 1) / 400 : Nat) : Int) := by exact_mod_cast c
  omega
theorem date_valid {n : Int} (h0 : 0 ≤ n) (h1 : n ≤ 2932896) : Valid (yr n) (mo n) (dy n) ∧ num (yr n) (mo n) (dy n) = n := by
  obtain ⟨a, b, c, d, e, f⟩ := yrs_bd n
  have hn : n + 719468 = 146097 * cyc n + (n + 719468) % 146097 := by unfold cyc; omega
  have hm : 0 ≤ mon n ∧ 153 * mon n ≤ 5 * rst n + 2 ∧ 5 * rst n + 2 < 153 * mon n + 153 := by unfold mon; omega
  have hd : dy n = rst n - (153 * mon n + 2) / 5 + 1 := rfl
  have hc := mar_cycle (cyc n) (yrs n)
  have hs := mar_step (yrs n + 1)
  have hs' := mar_step (400 * cyc n + yrs n + 1)
  have hc' := mar_cycle (cyc n) (yrs n + 1)
  rw [show yrs n + 1 - 1 = yrs n by omega] at hs
  rw [show 400 * cyc n + yrs n + 1 - 1 = 400 * cyc n + yrs n by omega] at hs'
  rw [show 400 * cyc n + (yrs n + 1) = 400 * cyc n + yrs n + 1 by omega] at hc'
  have hl := lp_bd (400 * cyc n + yrs n + 1)
  have hm11 : mon n ≤ 11 := by omega
  unfold yr mo
  generalize hM : mon n = M at *
  generalize rst n = R at *
  generalize hY : 400 * cyc n + yrs n = Y at *
  generalize (n + 719468) % 146097 = X at *
  generalize dy n = D at *
  have m1 : mar 1969 = 719162 := by decide
  have m2 : mar 1970 = 719527 := by decide
  have m3 : mar 9999 = 3652059 := by decide
  have m4 : mar 10000 = 3652425 := by decide
  have hlo : 1969 ≤ Y := by
    by_cases h : Y < 1969
    · have := mar_mono h; omega
    · omega
  have hhi : Y ≤ 9999 := by
    by_cases h : 9999 < Y
    · have := mar_mono h; omega
    · omega
  by_cases hs : 9 < M
  · simp only [if_pos hs]
    have hMM : M = 10 ∨ M = 11 := by omega
    have hY9 : Y ≤ 9998 := by
      by_cases h : Y = 9999
      · subst h; omega
      · omega
    rcases hMM with h | h <;> subst h
    · refine ⟨⟨by omega, by omega, by omega, by omega, by omega, ?_⟩, ?_⟩
      · simp [dim]; omega
      · simp [num, cum, dby]; omega
    · refine ⟨⟨by omega, by omega, by omega, by omega, by omega, ?_⟩, ?_⟩
      · simp [dim]; omega
      · simp [num, cum, dby]; omega
  · simp only [if_neg hs]
    have hY0 : 1970 ≤ Y := by
      by_cases h : Y = 1969
      · subst h; omega
      · omega
    have hst := mar_step Y
    have hMM : M = 0 ∨ M = 1 ∨ M = 2 ∨ M = 3 ∨ M = 4 ∨ M = 5 ∨ M = 6 ∨ M = 7 ∨ M = 8 ∨ M = 9 := by omega
    rcases hMM with h | h | h | h | h | h | h | h | h | h <;> subst h <;> refine ⟨⟨by omega, by omega, by omega, by omega, by omega, ?_⟩, ?_⟩ <;> simp [dim, num, cum, dby] <;> omega
theorem date_of {y m d : Int} (h : Valid y m d) : yr (num y m d) = y ∧ mo (num y m d) = m ∧ dy (num y m d) = d := by
  have hr := num_range h
  have hv := date_valid hr.1 hr.2
  exact num_inj hv.1 h hv.2
end Cal
namespace Cal
/-! ### the program's answers, the error with them (0: OK, 2: ErrArg, 14: ErrTime) -/
def dayOk (n : Int) : Prop := 0 ≤ n ∧ n ≤ 2932896
instance (n : Int) : Decidable (dayOk n) := by unfold dayOk; infer_instance
def dateY (n : Int) : Int := if dayOk n then yr n else 0
def dateM (n : Int) : Int := if dayOk n then mo n else 0
def dateD (n : Int) : Int := if dayOk n then dy n else 0
def dateE (n : Int) : Int := if dayOk n then 0 else 14
def daysV (y m d : Int) : Int := if Valid y m d then num y m d else 0
def daysE (y m d : Int) : Int := if Valid y m d then 0 else 2
def timeOk (t : Int) : Prop := 0 ≤ t ∧ t ≤ 253402300799
instance (t : Int) : Decidable (timeOk t) := by unfold timeOk; infer_instance
/-- the civil time of a time -/
def cY (t : Int) : Int := yr (t / 86400)
def cM (t : Int) : Int := mo (t / 86400)
def cD (t : Int) : Int := dy (t / 86400)
def cH (t : Int) : Int := t % 86400 / 3600
def cI (t : Int) : Int := t % 86400 % 3600 / 60
def cS (t : Int) : Int := t % 86400 % 60
def ofY (t : Int) : Int := if timeOk t then cY t else 0
def ofM (t : Int) : Int := if timeOk t then cM t else 0
def ofD (t : Int) : Int := if timeOk t then cD t else 0
def ofH (t : Int) : Int := if timeOk t then cH t else 0
def ofI (t : Int) : Int := if timeOk t then cI t else 0
def ofS (t : Int) : Int := if timeOk t then cS t else 0
def ofE (t : Int) : Int := if timeOk t then 0 else 14
def wkV (t : Int) : Int := if timeOk t then (t / 86400 + 4) % 7 else 0
/-- a civil time that some time has -/
def Good (y m d h i s : Int) : Prop := Valid y m d ∧ 0 ≤ h ∧ h ≤ 23 ∧ 0 ≤ i ∧ i ≤ 59 ∧ 0 ≤ s ∧ s ≤ 59
instance (y m d h i s : Int) : Decidable (Good y m d h i s) := by unfold Good; infer_instance
def secs (y m d h i s : Int) : Int := 86400 * num y m d + (3600 * h + 60 * i + s)
def timeV (y m d h i s : Int) : Int := if Good y m d h i s then secs y m d h i s else 0
def timeE (y m d h i s : Int) : Int := if Good y m d h i s then 0 else 2
theorem day_of_time {t : Int} (h : timeOk t) : 0 ≤ t / 86400 ∧ t / 86400 ≤ 2932896 := by unfold timeOk at h; omega
theorem good_of {t : Int} (h : timeOk t) : Good (cY t) (cM t) (cD t) (cH t) (cI t) (cS t) ∧ secs (cY t) (cM t) (cD t) (cH t) (cI t) (cS t) = t := by
  have hd := day_of_time h
  have hv := date_valid hd.1 hd.2
  refine ⟨⟨hv.1, ?_⟩, ?_⟩
  · unfold cH cI cS; omega
  · unfold secs cY cM cD; rw [hv.2]; unfold cH cI cS; omega
theorem secs_range {y m d h i s : Int} (g : Good y m d h i s) : timeOk (secs y m d h i s) ∧ secs y m d h i s / 86400 = num y m d ∧ secs y m d h i s % 86400 = 3600 * h + 60 * i + s := by
  obtain ⟨v, h1, h2, h3, h4, h5, h6⟩ := g
  have := num_range v
  unfold timeOk secs; omega
theorem of_secs {y m d h i s : Int} (g : Good y m d h i s) : cY (secs y m d h i s) = y ∧ cM (secs y m d h i s) = m ∧ cD (secs y m d h i s) = d ∧ cH (secs y m d h i s) = h ∧ cI (secs y m d h i s) = i ∧ cS (secs y m d h i s) = s := by
  have hr := secs_range g
  obtain ⟨v, h1, h2, h3, h4, h5, h6⟩ := g
  have hd := date_of v
  unfold cY cM cD cH cI cS
  rw [hr.2.1, hr.2.2]
  exact ⟨hd.1, hd.2.1, hd.2.2, by omega, by omega, by omega⟩
theorem good_inj {y m d h i s y' m' d' h' i' s' : Int} (g : Good y m d h i s) (g' : Good y' m' d' h' i' s') (e : secs y m d h i s = secs y' m' d' h' i' s') : y = y' ∧ m = m' ∧ d = d' ∧ h = h' ∧ i = i' ∧ s = s' := by
  have a := of_secs g
  have b := of_secs g'
  rw [e] at a
  exact ⟨a.1.symm.trans b.1, a.2.1.symm.trans b.2.1, a.2.2.1.symm.trans b.2.2.1, a.2.2.2.1.symm.trans b.2.2.2.1, a.2.2.2.2.1.symm.trans b.2.2.2.2.1, a.2.2.2.2.2.symm.trans b.2.2.2.2.2⟩
/-- the fields of a civil time, in bounds -/
theorem c_bd {t : Int} (h : timeOk t) : 1970 ≤ cY t ∧ cY t ≤ 9999 ∧ 1 ≤ cM t ∧ cM t ≤ 12 ∧ 1 ≤ cD t ∧ cD t ≤ 31 ∧ 0 ≤ cH t ∧ cH t ≤ 23 ∧ 0 ≤ cI t ∧ cI t ≤ 59 ∧ 0 ≤ cS t ∧ cS t ≤ 59 := by
  obtain ⟨⟨⟨a, b, c, d, e, f⟩, g⟩, _⟩ := good_of h
  have := dim_bd (cY t) (cM t)
  omega
end Cal
namespace Cal
theorem mar_split (y : Int) : y / 400 * 146097 + y % 400 * 365 + y % 400 / 4 - y % 400 / 100 = mar y := by
  have e := mar_cycle (y / 400) (y % 400)
  rw [show 400 * (y / 400) + y % 400 = y by omega] at e
  have e0 : y % 400 / 400 = 0 := by omega
  rw [e]; unfold mar; rw [e0]; omega
theorem count_late {y m d : Int} (h : 3 ≤ m) : mar y + (153 * (m - 3) + 2) / 5 + d - 1 - 719468 = num y m d := by
  have := mar_step y
  unfold num cum dby; rw [if_neg (by omega)]; omega
theorem count_early {y m d : Int} (h : 1 ≤ m) (h' : m ≤ 2) : mar (y - 1) + (153 * (m + 12 - 3) + 2) / 5 + d - 1 - 719468 = num y m d := by
  unfold num cum dby; rw [if_pos h']; omega
theorem not_valid_date {y m d n : Int} (h0 : dayOk n) (h : ¬ Valid y m d) : ¬ (yr n = y ∧ mo n = m ∧ dy n = d) := by
  rintro ⟨rfl, rfl, rfl⟩
  exact h (date_valid h0.1 h0.2).1
end Cal
