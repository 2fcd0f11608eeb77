import Derived.Test.YtfhplhfgcanfbaaEvp
/- Plain facts on the first shared time of two schedules: Euclid's algorithm, and the Chinese remainder. -/
set_option linter.unusedVariables false
namespace Ev
/-- g divides both, and x times a leaves the rest g, modulo b -/
def Eu (a b g x : Int) : Prop := 1 ≤ g ∧ g ∣ a ∧ g ∣ b ∧ ∃ y, x * a = g + b * y
theorem crt_none {a b g x d s1 s2 k : Int} (h : Eu a b g x) (hd : d = (s2 - s1) % b) (hn : d % g ≠ 0) : ¬ b ∣ s1 + k * a - s2 := by
  rintro ⟨j, hj⟩
  obtain ⟨h1, ⟨a', rfl⟩, ⟨b', rfl⟩, y, hy⟩ := h
  apply hn
  have e := Int.mul_ediv_add_emod (s2 - s1) (g * b')
  have : d = g * (k * a' - b' * j - b' * ((s2 - s1) / (g * b'))) := by
    rw [hd]
    generalize (s2 - s1) / (g * b') = r at *
    generalize (s2 - s1) % (g * b') = D at *
    grind
  rw [this]; exact Int.mul_emod_right _ _
theorem crt_some {a b g x d s1 s2 : Int} (h : Eu a b g x) (hb : 1 ≤ b) (hd : d = (s2 - s1) % b) (hz : d % g = 0) :
    b ∣ s1 + (d / g * x) % (b / g) * a - s2 ∧ ∀ k, b ∣ s1 + k * a - s2 → ∃ j, k = (d / g * x) % (b / g) + b / g * j := by
  obtain ⟨h1, ⟨a', rfl⟩, ⟨b', rfl⟩, y, hy⟩ := h
  have hg : g ≠ 0 := by omega
  rw [Int.mul_ediv_cancel_left _ hg]
  obtain ⟨d', rfl⟩ : g ∣ d := Int.dvd_of_emod_eq_zero hz
  rw [Int.mul_ediv_cancel_left _ hg]
  have e := Int.mul_ediv_add_emod (s2 - s1) (g * b')
  rw [← hd] at e
  have hy' : x * a' = 1 + b' * y := Int.eq_of_mul_eq_mul_left hg (by grind)
  have f := Int.mul_ediv_add_emod (d' * x) b'
  generalize (s2 - s1) / (g * b') = r at *
  generalize (d' * x) / b' = q at *
  generalize (d' * x) % b' = K at *
  constructor
  · exact ⟨d' * y - a' * q - r, by grind⟩
  · rintro k ⟨j, hj⟩
    have k1 : k * a' - d' = b' * (j + r) := Int.eq_of_mul_eq_mul_left hg (by grind)
    refine ⟨q + x * (j + r) - k * y, ?_⟩
    grind
theorem mod_first {K m k j : Int} (hm : 1 ≤ m) (h0 : 0 ≤ K) (h1 : K < m) (hk : 0 ≤ k) (e : k = K + m * j) : 0 ≤ j ∧ K ≤ k := by
  have hj : 0 ≤ j := by
    by_cases hc : 0 ≤ j
    · exact hc
    · have := Int.mul_le_mul_of_nonneg_left (show j ≤ -1 by omega) (show 0 ≤ m by omega)
      omega
  have := Int.mul_nonneg (show 0 ≤ m by omega) hj
  omega
theorem eu_m {a b g x : Int} (h : Eu a b g x) (hb : 1 ≤ b) : 1 ≤ b / g ∧ b / g ≤ b ∧ b / g * g = b := by
  obtain ⟨h1, _, ⟨b', rfl⟩, _⟩ := h
  rw [Int.mul_ediv_cancel_left _ (by omega)]
  have hb' : 1 ≤ b' := by
    by_cases hc : 1 ≤ b'
    · exact hc
    · have := Int.mul_le_mul_of_nonneg_left (show b' ≤ 0 by omega) (show 0 ≤ g by omega)
      omega
  have := Int.mul_le_mul_of_nonneg_right h1 (show 0 ≤ b' by omega)
  refine ⟨hb', by omega, Int.mul_comm _ _⟩
/-! ### the first shared time -/
def MeetR (s1 p1 c1 s2 p2 c2 t : Int) (ok : Bool) : Prop :=
  (ok = true ∧ isB s1 p1 c1 t = true ∧ isB s2 p2 c2 t = true ∧ ∀ u, isB s1 p1 c1 u = true → isB s2 p2 c2 u = true → t ≤ u) ∨
  (ok = false ∧ t = 0 ∧ ∀ u, isB s1 p1 c1 u = true → isB s2 p2 c2 u = true → False)
theorem MeetR.unique {s1 p1 c1 s2 p2 c2 t u : Int} {a b : Bool} (h : MeetR s1 p1 c1 s2 p2 c2 t a) (k : MeetR s1 p1 c1 s2 p2 c2 u b) : t = u ∧ a = b := by
  rcases h with ⟨ha, h1, h2, h3⟩ | ⟨ha, h1, h2⟩ <;> rcases k with ⟨hb, k1, k2, k3⟩ | ⟨hb, k1, k2⟩
  · have := h3 u k1 k2; have := k3 t h1 h2; exact ⟨by omega, by rw [ha, hb]⟩
  · exact (k2 t h1 h2).elim
  · exact (h2 u k1 k2).elim
  · exact ⟨by rw [h1, k1], by rw [ha, hb]⟩
theorem MeetR.symm {s1 p1 c1 s2 p2 c2 t : Int} {a : Bool} (h : MeetR s1 p1 c1 s2 p2 c2 t a) : MeetR s2 p2 c2 s1 p1 c1 t a := by
  rcases h with ⟨ha, h1, h2, h3⟩ | ⟨ha, h1, h2⟩
  · exact Or.inl ⟨ha, h2, h1, fun u a b => h3 u b a⟩
  · exact Or.inr ⟨ha, h1, fun u a b => h2 u b a⟩
/-- two times of a schedule: the earlier one has a smaller number -/
theorem is_mono {s p c : Int} (h : Ok s p c) {t u k : Int} (hu : isB s p c u = true) (hk : 0 ≤ k) (ht : t = s + k * p) (htu : t ≤ u) : isB s p c t = true := by
  obtain ⟨n, h0, hn, rfl⟩ := (is_iff h u).1 hu
  have hp := h.2.2.1
  have := @tm_lt p n k hp
  exact (is_iff h t).2 ⟨k, hk, by omega, ht⟩
/-- the shared times are those from t0 on; t0 has the number k0 in the first, l0 in the second schedule -/
theorem meet_of {s1 p1 c1 s2 p2 c2 : Int} (h1 : Ok s1 p1 c1) (h2 : Ok s2 p2 c2) {t0 k0 l0 : Int} (hk : 0 ≤ k0) (hl : 0 ≤ l0) (e1 : t0 = s1 + k0 * p1) (e2 : t0 = s2 + l0 * p2)
    (hall : ∀ u, isB s1 p1 c1 u = true → isB s2 p2 c2 u = true → t0 ≤ u) (ok : Bool) (hok : ok = (isB s1 p1 c1 t0 && isB s2 p2 c2 t0)) :
    MeetR s1 p1 c1 s2 p2 c2 (if ok = true then t0 else 0) ok := by
  cases ok with
  | true =>
    rw [if_pos rfl]
    have := hok.symm
    simp only [Bool.and_eq_true] at this
    exact Or.inl ⟨rfl, this.1, this.2, hall⟩
  | false =>
    rw [if_neg (by decide)]
    refine Or.inr ⟨rfl, rfl, fun u a b => ?_⟩
    have := hall u a b
    rw [is_mono h1 a hk e1 this, is_mono h2 b hl e2 this] at hok
    cases hok
theorem meet_none {s1 p1 c1 s2 p2 c2 : Int} (hall : ∀ u, isB s1 p1 c1 u = true → isB s2 p2 c2 u = true → False) : MeetR s1 p1 c1 s2 p2 c2 0 false := Or.inr ⟨rfl, rfl, hall⟩
/-- a shared time gives a solution of the congruence -/
theorem share_dvd {s1 p1 c1 s2 p2 c2 : Int} (h1 : Ok s1 p1 c1) (h2 : Ok s2 p2 c2) {u : Int} (a : isB s1 p1 c1 u = true) (b : isB s2 p2 c2 u = true) : ∃ k, 0 ≤ k ∧ u = s1 + k * p1 ∧ p2 ∣ s1 + k * p1 - s2 := by
  obtain ⟨k, k0, kn, rfl⟩ := (is_iff h1 u).1 a
  obtain ⟨l, l0, ln, e⟩ := (is_iff h2 _).1 b
  exact ⟨k, k0, rfl, l, by rw [e, Int.mul_comm p2 l]; omega⟩
/-- the program's way: the later start first -/
theorem prog_none {s1 p1 c1 s2 p2 c2 g x d : Int} (h1 : Ok s1 p1 c1) (h2 : Ok s2 p2 c2) (he : Eu p1 p2 g x) (hd : d = (s2 - s1) % p2) (hn : d % g ≠ 0) : MeetR s1 p1 c1 s2 p2 c2 0 false := by
  refine meet_none fun u a b => ?_
  obtain ⟨k, _, _, hv⟩ := share_dvd h1 h2 a b
  exact crt_none he hd hn hv
theorem first_all {s1 p1 c1 s2 p2 c2 g x d : Int} (h1 : Ok s1 p1 c1) (h2 : Ok s2 p2 c2) (he : Eu p1 p2 g x) (hd : d = (s2 - s1) % p2) (hz : d % g = 0) :
    0 ≤ (d / g * x) % (p2 / g) ∧ (d / g * x) % (p2 / g) < p2 / g ∧ p2 ∣ s1 + (d / g * x) % (p2 / g) * p1 - s2 ∧
    ∀ u, isB s1 p1 c1 u = true → isB s2 p2 c2 u = true → ∃ j, 0 ≤ j ∧ u = s1 + (d / g * x) % (p2 / g) * p1 + p2 / g * p1 * j := by
  have hm := eu_m he h2.2.2.1
  have c := crt_some he h2.2.2.1 hd hz
  have k0 : 0 ≤ (d / g * x) % (p2 / g) := Int.emod_nonneg _ (by omega)
  have k1 : (d / g * x) % (p2 / g) < p2 / g := Int.emod_lt_of_pos _ (by omega)
  refine ⟨k0, k1, c.1, fun u a b => ?_⟩
  obtain ⟨k, hk, rfl, hv⟩ := share_dvd h1 h2 a b
  obtain ⟨j, hj⟩ := c.2 k hv
  have := mod_first hm.1 k0 k1 hk hj
  refine ⟨j, this.1, ?_⟩
  generalize (d / g * x) % (p2 / g) = K at *
  generalize p2 / g = m at *
  grind
theorem prog_some {s1 p1 c1 s2 p2 c2 g x d : Int} (h1 : Ok s1 p1 c1) (h2 : Ok s2 p2 c2) (he : Eu p1 p2 g x) (hd : d = (s2 - s1) % p2) (hz : d % g = 0) (hs : s2 ≤ s1) {K : Int} (hK : (d / g * x) % (p2 / g) = K)
    (ok : Bool) (hok : ok = (decide (K < num s1 p1 c1) && isB s2 p2 c2 (s1 + K * p1))) :
    MeetR s1 p1 c1 s2 p2 c2 (if ok = true then s1 + K * p1 else 0) ok := by
  have hm := eu_m he h2.2.2.1
  obtain ⟨f1, f2, ⟨l, hl⟩, f4⟩ := first_all h1 h2 he hd hz
  rw [hK] at f1 f2 hl f4
  have hp1 := h1.2.2.1
  have hp2 := h2.2.2.1
  have hk := tm_nonneg hp1 f1
  have hl0 : 0 ≤ l := by
    by_cases hc : 0 ≤ l
    · exact hc
    · have := Int.mul_le_mul_of_nonneg_left (show l ≤ -1 by omega) (show 0 ≤ p2 by omega)
      omega
  refine meet_of h1 h2 f1 hl0 rfl (by rw [Int.mul_comm l p2]; omega) (fun u a b => ?_) ok ?_
  · obtain ⟨j, hj, e⟩ := f4 u a b
    have := Int.mul_nonneg (Int.mul_nonneg (show 0 ≤ p2 / g by omega) (show 0 ≤ p1 by omega)) hj
    omega
  · rw [hok]
    congr 1
    rw [Bool.eq_iff_iff, decide_eq_true_iff, is_iff h1]
    constructor
    · intro h; exact ⟨K, f1, h, rfl⟩
    · rintro ⟨n, n0, n1, e⟩
      have := tm_inj hp1 (show K * p1 = n * p1 by omega)
      omega
/-- the document's way -/
theorem ref_far {s1 p1 c1 s2 p2 c2 g x d : Int} (h1 : Ok s1 p1 c1) (h2 : Ok s2 p2 c2) (he : Eu p1 p2 g x) (hd : d = (s2 - s1) % p2) (hz : d % g = 0) {K : Int} (hK : (d / g * x) % (p2 / g) = K) (hf : (253402300799 - s1) / p1 < K) :
    MeetR s1 p1 c1 s2 p2 c2 0 false := by
  have hm := eu_m he h2.2.2.1
  obtain ⟨f1, f2, _, f4⟩ := first_all h1 h2 he hd hz
  rw [hK] at f1 f2 f4
  refine meet_none fun u a b => ?_
  obtain ⟨j, hj, e⟩ := f4 u a b
  have hp1 := h1.2.2.1
  have n1 := Int.mul_nonneg (Int.mul_nonneg (show 0 ≤ p2 / g by omega) (show 0 ≤ p1 by omega)) hj
  obtain ⟨n, n0, n2, e2⟩ := (is_iff h1 u).1 a
  have n3 := tm_le h1 n2
  have : ¬ K ≤ (253402300799 - s1) / p1 := by omega
  rw [Int.le_ediv_iff_mul_le (by omega)] at this
  omega
theorem ref_step {s1 p1 c1 s2 p2 c2 g x d : Int} (h1 : Ok s1 p1 c1) (h2 : Ok s2 p2 c2) (he : Eu p1 p2 g x) (hd : d = (s2 - s1) % p2) (hz : d % g = 0) {K : Int} (hK : (d / g * x) % (p2 / g) = K) (hlt : s1 + K * p1 < s2) (hf : 253402300799 / p1 < p2 / g) :
    MeetR s1 p1 c1 s2 p2 c2 0 false := by
  have hm := eu_m he h2.2.2.1
  obtain ⟨f1, f2, _, f4⟩ := first_all h1 h2 he hd hz
  rw [hK] at f1 f2 f4
  refine meet_none fun u a b => ?_
  obtain ⟨j, hj, e⟩ := f4 u a b
  have hp1 := h1.2.2.1
  have hp2 := h2.2.2.1
  obtain ⟨n, n0, n2, e2⟩ := (is_iff h1 u).1 a
  obtain ⟨l, l0, l2, e3⟩ := (is_iff h2 u).1 b
  have n3 := tm_le h1 n2
  have l3 := tm_nonneg hp2 l0
  have hk := tm_nonneg hp1 f1
  have h10 := h1.1
  have : ¬ p2 / g ≤ 253402300799 / p1 := by omega
  rw [Int.le_ediv_iff_mul_le (by omega)] at this
  generalize p2 / g * p1 = st at *
  have hj1 : 1 ≤ j := by
    by_cases hc : 1 ≤ j
    · exact hc
    · have : j = 0 := by omega
      rw [this] at e; omega
  have := Int.mul_le_mul_of_nonneg_left hj1 (show 0 ≤ st by omega)
  omega
/-- the first of t, t + step .. that is not before b -/
def up (t b st : Int) : Int := if t < b then t + (b - t + st - 1) / st * st else t
theorem up_facts {t b st : Int} (hst : 1 ≤ st) : b ≤ up t b st ∧ (∃ i, 0 ≤ i ∧ up t b st = t + st * i) ∧ ∀ j, 0 ≤ j → b ≤ t + st * j → up t b st ≤ t + st * j := by
  unfold up
  by_cases h : t < b
  · rw [if_pos h]
    have q := Int.mul_ediv_add_emod (b - t + st - 1) st
    have r0 := Int.emod_nonneg (b - t + st - 1) (show st ≠ 0 by omega)
    have r1 := Int.emod_lt_of_pos (b - t + st - 1) (show 0 < st by omega)
    have hq : 0 ≤ (b - t + st - 1) / st := Int.ediv_nonneg (by omega) (by omega)
    rw [Int.mul_comm ((b - t + st - 1) / st) st]
    refine ⟨by omega, ⟨_, hq, rfl⟩, fun j hj hb => ?_⟩
    have : (b - t + st - 1) / st ≤ j := by
      by_cases hc : (b - t + st - 1) / st ≤ j
      · exact hc
      · have := Int.mul_le_mul_of_nonneg_left (show j + 1 ≤ (b - t + st - 1) / st by omega) (show 0 ≤ st by omega)
        rw [Int.mul_add] at this; omega
    have := Int.mul_le_mul_of_nonneg_left this (show 0 ≤ st by omega)
    omega
  · rw [if_neg h]
    refine ⟨by omega, ⟨0, by omega, by omega⟩, fun j hj hb => ?_⟩
    have := Int.mul_nonneg (show 0 ≤ st by omega) hj
    omega
theorem ref_some {s1 p1 c1 s2 p2 c2 g x d : Int} (h1 : Ok s1 p1 c1) (h2 : Ok s2 p2 c2) (he : Eu p1 p2 g x) (hd : d = (s2 - s1) % p2) (hz : d % g = 0) {K T : Int} (hK : (d / g * x) % (p2 / g) = K) (hT : up (s1 + K * p1) s2 (p2 / g * p1) = T)
    (ok : Bool) (hok : ok = (isB s1 p1 c1 T && isB s2 p2 c2 T)) :
    MeetR s1 p1 c1 s2 p2 c2 (if ok = true then T else 0) ok := by
  have hm := eu_m he h2.2.2.1
  obtain ⟨f1, f2, ⟨l, hl⟩, f4⟩ := first_all h1 h2 he hd hz
  rw [hK] at f1 f2 hl f4
  have hp1 := h1.2.2.1
  have hp2 := h2.2.2.1
  have hst : 1 ≤ p2 / g * p1 := by
    have := Int.mul_le_mul_of_nonneg_right hm.1 (show 0 ≤ p1 by omega); omega
  obtain ⟨u1, ⟨i, i0, u2⟩, u3⟩ := up_facts (t := s1 + K * p1) (b := s2) hst
  rw [hT] at u1 u2 u3
  have hg : p2 / g * g = p2 := hm.2.2
  obtain ⟨g1, ⟨a', ha'⟩, _, _⟩ := he
  have e2 : T = s2 + (l + a' * i) * p2 := by
    have : p2 / g * p1 * i = a' * i * p2 := by
      have : p2 / g * p1 = a' * p2 := by rw [ha', ← Int.mul_assoc, hg, Int.mul_comm]
      rw [this, Int.mul_right_comm]
    rw [Int.add_mul, ← this, Int.mul_comm l p2]; omega
  have hl0 : 0 ≤ l + a' * i := by
    by_cases hc : 0 ≤ l + a' * i
    · exact hc
    · have := Int.mul_le_mul_of_nonneg_right (show l + a' * i ≤ -1 by omega) (show 0 ≤ p2 by omega)
      omega
  have e1 : T = s1 + (K + p2 / g * i) * p1 := by
    rw [Int.add_mul, Int.mul_right_comm (p2 / g) i p1]; omega
  have hk0 : 0 ≤ K + p2 / g * i := by
    have := Int.mul_nonneg (show 0 ≤ p2 / g by omega) i0; omega
  refine meet_of h1 h2 hk0 hl0 e1 e2 (fun u a b => ?_) ok hok
  obtain ⟨j, hj, e⟩ := f4 u a b
  rw [e]
  refine u3 j hj ?_
  obtain ⟨n, n0, _, e3⟩ := (is_iff h2 u).1 b
  have := tm_nonneg hp2 n0
  omega
theorem ref_late {s1 p1 c1 s2 p2 c2 g x d : Int} (h1 : Ok s1 p1 c1) (h2 : Ok s2 p2 c2) (he : Eu p1 p2 g x) (hd : d = (s2 - s1) % p2) (hz : d % g = 0) {K T : Int} (hK : (d / g * x) % (p2 / g) = K) (hT : up (s1 + K * p1) s2 (p2 / g * p1) = T) (hl : 253402300799 < T) :
    MeetR s1 p1 c1 s2 p2 c2 0 false := by
  have hf : isB s1 p1 c1 T = false := by
    rw [Bool.eq_false_iff]; intro h
    obtain ⟨n, n0, n1, e⟩ := (is_iff h1 T).1 h
    have := tm_le h1 n1
    omega
  exact ref_some h1 h2 he hd hz hK hT false (by rw [hf]; rfl)
/-! ### Euclid's algorithm, by a loop -/
def Inv (A M a b x y : Int) : Prop := 0 ≤ a ∧ (a ≤ A ∨ a ≤ M) ∧ 0 ≤ b ∧ b ≤ M ∧ 1 ≤ a + b ∧ (∀ e : Int, e ∣ a → e ∣ b → e ∣ A ∧ e ∣ M) ∧ (∃ u, x * A = a + M * u) ∧ (∃ v, y * A = b + M * v) ∧
  ∃ X Y, 0 ≤ X ∧ X ≤ M ∧ 0 ≤ Y ∧ Y ≤ M ∧ (x = X ∧ y = -Y ∨ x = -X ∧ y = Y) ∧ a * Y + b * X = M
theorem inv_start {A M : Int} (hA : 1 ≤ A) (hM : 1 ≤ M) : Inv A M A M 1 0 := by
  refine ⟨by omega, by omega, by omega, by omega, by omega, fun e h k => ⟨h, k⟩, ⟨0, by omega⟩, ⟨-1, by omega⟩, 1, 0, by omega, hM, by omega, by omega, Or.inl ⟨rfl, by omega⟩, by omega⟩
theorem inv_bd {A M a b x y : Int} (h : Inv A M a b x y) : -M ≤ x ∧ x ≤ M ∧ -M ≤ y ∧ y ≤ M := by
  obtain ⟨_, _, _, _, _, _, _, _, X, Y, h1, h2, h3, h4, h5, _⟩ := h
  omega
theorem inv_step {A M a b x y : Int} (h : Inv A M a b x y) (hb : 1 ≤ b) :
    Inv A M b (a - a / b * b) y (x - a / b * y) ∧ 0 ≤ a / b * b ∧ a / b * b ≤ a ∧ -M ≤ a / b * y ∧ a / b * y ≤ M ∧ a - a / b * b < b := by
  have hbd := inv_bd h
  obtain ⟨a0, a1, b0, b1, ab, hdv, ⟨u, hu⟩, ⟨v, hv⟩, X, Y, x0, x1, y0, y1, hs, hm⟩ := h
  have q0 : 0 ≤ a / b := Int.ediv_nonneg a0 b0
  have e := Int.mul_ediv_add_emod a b
  have r0 := Int.emod_nonneg a (show b ≠ 0 by omega)
  have r1 := Int.emod_lt_of_pos a (show 0 < b by omega)
  rw [Int.mul_comm b] at e
  generalize a / b = q at *
  have qb := Int.mul_nonneg q0 b0
  have qy := Int.mul_nonneg q0 y0
  have hm2 : b * (X + q * Y) + (a - q * b) * Y = M := by grind
  have hr : 0 ≤ a - q * b := by omega
  have hry := Int.mul_nonneg hr y0
  have hXq : X + q * Y ≤ M := by
    have := Int.mul_le_mul_of_nonneg_right hb (show 0 ≤ X + q * Y by omega)
    omega
  refine ⟨⟨b0, by omega, hr, by omega, by omega, fun f hf hg => ?_, ⟨v, hv⟩, ⟨u - q * v, by grind⟩, Y, X + q * Y, y0, y1, by omega, hXq, ?_, hm2⟩, qb, by omega, ?_, ?_, by omega⟩
  · have : f ∣ a := by
      have := Int.dvd_add hg (Int.dvd_mul_of_dvd_right (b := q) hf)
      rwa [show a - q * b + q * b = a by omega] at this
    exact hdv f this hf
  · rcases hs with ⟨rfl, rfl⟩ | ⟨rfl, rfl⟩
    · exact Or.inr ⟨rfl, by grind⟩
    · exact Or.inl ⟨rfl, by grind⟩
  · rcases hs with ⟨_, rfl⟩ | ⟨_, rfl⟩
    · rw [Int.mul_neg]; omega
    · omega
  · rcases hs with ⟨_, rfl⟩ | ⟨_, rfl⟩
    · rw [Int.mul_neg]; omega
    · omega
theorem inv_end {A M a x y : Int} (h : Inv A M a 0 x y) : Eu A M a x := by
  obtain ⟨a0, a1, b0, b1, ab, hdv, ⟨u, hu⟩, _⟩ := h
  have := hdv a (Int.dvd_refl _) (Int.dvd_zero _)
  exact ⟨by omega, this.1, this.2, u, hu⟩
/-! ### and by recursion -/
def EuR (a b g x y : Int) : Prop := 1 ≤ g ∧ g ∣ a ∧ g ∣ b ∧ a * x + b * y = g ∧ -b - 1 ≤ x ∧ x ≤ b + 1 ∧ -a - 1 ≤ y ∧ y ≤ a + 1 ∧ (b = 0 → x = 1 ∧ y = 0) ∧ (1 ≤ b → -b ≤ x ∧ x ≤ b) ∧ (1 ≤ a → -a ≤ y ∧ y ≤ a)
theorem euR_zero {a : Int} (h : 1 ≤ a) : EuR a 0 a 1 0 :=
  ⟨h, Int.dvd_refl _, Int.dvd_zero _, by omega, by omega, by omega, by omega, by omega, fun _ => ⟨rfl, rfl⟩, by omega, by omega⟩
theorem euR_step {a b g x y : Int} (ha : 0 ≤ a) (hb : 1 ≤ b) (h : EuR b (a % b) g x y) : EuR a b g y (x - a / b * y) ∧ -a ≤ a / b * y ∧ a / b * y ≤ a := by
  obtain ⟨g1, gb, gr, e, x1, x2, y1, y2, z, hx, hy⟩ := h
  have q := Int.mul_ediv_add_emod a b
  have r0 := Int.emod_nonneg a (show b ≠ 0 by omega)
  have r1 := Int.emod_lt_of_pos a (show 0 < b by omega)
  have q0 : 0 ≤ a / b := Int.ediv_nonneg ha (by omega)
  have hy := hy hb
  generalize a / b = k at *
  generalize a % b = r at *
  have kb := Int.mul_nonneg q0 (show 0 ≤ b by omega)
  have u1 := Int.mul_le_mul_of_nonneg_left hy.2 q0
  have u2 := Int.mul_le_mul_of_nonneg_left hy.1 q0
  rw [Int.mul_neg] at u2
  rw [Int.mul_comm b k] at q
  have ga : g ∣ a := by
    have := Int.dvd_add (Int.dvd_mul_of_dvd_right (b := k) gb) gr
    rwa [show k * b + r = a by omega] at this
  refine ⟨⟨g1, ga, gb, by grind, by omega, by omega, ?_, ?_, by omega, fun _ => by omega, fun _ => ?_⟩, by omega, by omega⟩
  · by_cases hr : 1 ≤ r
    · have := hx hr; omega
    · have := z (by omega); obtain ⟨rfl, rfl⟩ := this; omega
  · by_cases hr : 1 ≤ r
    · have := hx hr; omega
    · have := z (by omega); obtain ⟨rfl, rfl⟩ := this; omega
  · by_cases hr : 1 ≤ r
    · have := hx hr; omega
    · have := z (by omega); obtain ⟨rfl, rfl⟩ := this; omega
theorem euR_eu {a b g x y : Int} (h : EuR a b g x y) : Eu a b g x := by
  obtain ⟨g1, ga, gb, e, _⟩ := h
  exact ⟨g1, ga, gb, -y, by grind⟩
/-! ### a product by doubling -/
theorem dbl_odd {out a b m P : Int} (hm : 1 ≤ m) (h : (out + a * b) % m = P) (ho : b % 2 = 1) : ((out + a) % m + (2 * a % m) * (b / 2)) % m = P := by
  have hb : b = 2 * (b / 2) + 1 := by omega
  generalize b / 2 = k at *
  subst hb
  rw [← h, ← Int.emod_add_emod]
  have e1 : out + a * (2 * k + 1) = (out + a) + (2 * a) * k := by grind
  rw [e1]
  simp only [Int.add_emod, Int.mul_emod, Int.emod_emod]
theorem dbl_even {out a b m P : Int} (hm : 1 ≤ m) (h : (out + a * b) % m = P) (ho : b % 2 = 0) : (out + (2 * a % m) * (b / 2)) % m = P := by
  have hb : b = 2 * (b / 2) := by omega
  generalize b / 2 = k at *
  subst hb
  rw [← h]
  have e1 : out + a * (2 * k) = out + (2 * a) * k := by grind
  rw [e1]
  simp [Int.add_emod, Int.mul_emod]
end Ev
