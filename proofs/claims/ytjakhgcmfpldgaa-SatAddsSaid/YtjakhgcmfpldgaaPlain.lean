/- Plain facts on clipped sums, products and powers of integers (layer 1, sat): no program in sight. -/
namespace Sat
/-- the limit, 2^62 -/
def never : Int := 4611686018427387904
theorem never_def : never = 4611686018427387904 := rfl
def clip (a : Int) : Int := if never < a then never else if a < -never then -never else a
theorem clip_bd (a : Int) : -never ≤ clip a ∧ clip a ≤ never := by
  have := never_def
  unfold clip; constructor <;> (repeat' split) <;> omega
theorem clip_id {a : Int} (h : -never ≤ a ∧ a ≤ never) : clip a = a := by
  unfold clip; rw [if_neg (by omega), if_neg (by omega)]
theorem clip_ge {a : Int} (h : never ≤ a) : clip a = never := by
  have := never_def
  unfold clip; split
  · rfl
  · rw [if_neg (by omega)]; omega
theorem clip_le {a : Int} (h : a ≤ -never) : clip a = -never := by
  have := never_def
  unfold clip; rw [if_neg (by omega)]; split
  · rfl
  · omega
theorem clip_clip (a : Int) : clip (clip a) = clip a := clip_id (clip_bd a)
theorem clip_neg (a : Int) : clip (-a) = -clip a := by
  have := never_def
  unfold clip; repeat' split
  all_goals omega
theorem clip_mono {a b : Int} (h : a ≤ b) : clip a ≤ clip b := by
  have := never_def
  unfold clip; repeat' split
  all_goals omega
def add (a b : Int) : Int := clip (clip a + clip b)
def sub (a b : Int) : Int := clip (clip a - clip b)
def mul (a b : Int) : Int := clip (clip a * clip b)
def pow (a : Int) (n : Int) : Int := if n < 0 then 0 else clip (a ^ n.toNat)
def sum (l : List Int) : Int := l.foldl add 0
theorem add_bd (a b : Int) : -never ≤ add a b ∧ add a b ≤ never := clip_bd _
theorem sub_bd (a b : Int) : -never ≤ sub a b ∧ sub a b ≤ never := clip_bd _
theorem mul_bd (a b : Int) : -never ≤ mul a b ∧ mul a b ≤ never := clip_bd _
theorem add_comm (a b : Int) : add a b = add b a := by unfold add; rw [Int.add_comm]
theorem mul_comm (a b : Int) : mul a b = mul b a := by unfold mul; rw [Int.mul_comm]
theorem sub_neg (a b : Int) : sub a b = -sub b a := by unfold sub; rw [← clip_neg]; congr 1; omega
theorem sub_add (a b : Int) : add a (-clip b) = sub a b := by
  unfold sub add; rw [clip_neg, clip_clip]; rfl
theorem add_mono {a b : Int} (c : Int) (h : a ≤ b) : add a c ≤ add b c := by
  unfold add; apply clip_mono; have := clip_mono h; omega
theorem add_zero_clip {a : Int} (h : -never ≤ a ∧ a ≤ never) : add a 0 = a := by
  unfold add; rw [clip_id h, show clip 0 = 0 from rfl, Int.add_zero, clip_id h]
theorem mul_one_clip {a : Int} (h : -never ≤ a ∧ a ≤ never) : mul a 1 = a := by
  unfold mul; rw [clip_id h, show clip 1 = 1 from rfl, Int.mul_one, clip_id h]

/-- a factor may be clipped before -/
theorem clip_mul_left (x y : Int) : clip (clip x * y) = clip (x * y) := by
  have hn := never_def
  by_cases h1 : never < x
  · have hc : clip x = never := clip_ge (by omega)
    rw [hc]
    by_cases hy : 1 ≤ y
    · have e1 := Int.mul_le_mul_of_nonneg_left hy (show 0 ≤ x by omega)
      have e2 := Int.mul_le_mul_of_nonneg_left hy (show 0 ≤ never by omega)
      rw [clip_ge (by omega), clip_ge (by omega)]
    · by_cases hz : y = 0
      · subst hz; simp
      · have e1 := Int.mul_le_mul_of_nonneg_left (show y ≤ -1 by omega) (show 0 ≤ x by omega)
        have e2 := Int.mul_le_mul_of_nonneg_left (show y ≤ -1 by omega) (show 0 ≤ never by omega)
        rw [clip_le (by omega), clip_le (by omega)]
  · by_cases h2 : x < -never
    · have hc : clip x = -never := clip_le (by omega)
      rw [hc]
      by_cases hy : 1 ≤ y
      · have e1 := Int.mul_le_mul_of_nonneg_left hy (show 0 ≤ -x by omega)
        have e2 := Int.mul_le_mul_of_nonneg_left hy (show 0 ≤ never by omega)
        have e3 : -never * y = -(never * y) := Int.neg_mul ..
        have e4 : -x * 1 = -x := Int.mul_one _
        have e5 : -x * y = -(x * y) := Int.neg_mul ..
        rw [clip_le (by omega), clip_le (by omega)]
      · by_cases hz : y = 0
        · subst hz; simp
        · have e1 := Int.mul_le_mul_of_nonneg_left (show y ≤ -1 by omega) (show 0 ≤ -x by omega)
          have e2 := Int.mul_le_mul_of_nonneg_left (show y ≤ -1 by omega) (show 0 ≤ never by omega)
          have e3 : -never * y = -(never * y) := Int.neg_mul ..
          have e5 : -x * y = -(x * y) := Int.neg_mul ..
          rw [clip_ge (by omega), clip_ge (by omega)]
    · rw [show clip x = x from clip_id (by omega)]
theorem clip_mul (x y : Int) : clip (clip x * clip y) = clip (x * y) := by
  rw [clip_mul_left, Int.mul_comm, clip_mul_left, Int.mul_comm]
theorem mul_clips (x y : Int) : mul (clip x) (clip y) = clip (x * y) := by
  unfold mul; rw [clip_clip, clip_clip, clip_mul]
theorem mul_eq (x y : Int) : mul x y = clip (x * y) := clip_mul x y

/-! ### powers -/
theorem pow_two_le (a : Int) (h : 2 ≤ a) : ∀ n : Nat, (2 : Int) ^ n ≤ a ^ n
  | 0 => by simp
  | n + 1 => by
    have ih := pow_two_le a h n
    have h0 : (0 : Int) ≤ 2 ^ n := Int.pow_nonneg (by omega)
    rw [Int.pow_succ, Int.pow_succ]
    have e1 := Int.mul_le_mul_of_nonneg_left h (show 0 ≤ a ^ n by omega)
    have e2 := Int.mul_le_mul_of_nonneg_right ih (show (0 : Int) ≤ 2 by omega)
    omega
theorem pow_two_mono {m n : Nat} (h : m ≤ n) : (2 : Int) ^ m ≤ 2 ^ n := by
  obtain ⟨k, rfl⟩ := Nat.exists_eq_add_of_le h
  rw [Int.pow_add]
  have h0 : (0 : Int) ≤ 2 ^ m := Int.pow_nonneg (by omega)
  have h1 : (1 : Int) ≤ 2 ^ k := by
    have := Int.pow_pos (n := (2 : Int)) (m := k) (by omega); omega
  have := Int.mul_le_mul_of_nonneg_left h1 h0
  omega
theorem clip_pow_big {a : Int} (h : 2 ≤ a) {n : Nat} (hn : 62 ≤ n) : clip (a ^ n) = never := by
  apply clip_ge
  have h1 := pow_two_le a h n
  have h2 := pow_two_mono hn
  have : (2 : Int) ^ 62 = never := rfl
  omega
theorem neg_pow_even {a : Int} {n : Nat} (h : n % 2 = 0) : (-a) ^ n = a ^ n := by
  rw [Int.neg_pow, h]; simp
theorem neg_pow_odd {a : Int} {n : Nat} (h : n % 2 = 1) : (-a) ^ n = -(a ^ n) := by
  rw [Int.neg_pow, h]; simp
theorem one_pow (n : Nat) : (1 : Int) ^ n = 1 := Int.one_pow
theorem zero_pow {n : Nat} (h : 0 < n) : (0 : Int) ^ n = 0 := Int.zero_pow (by omega)
/-- what a great power comes to -/
def great (a : Int) (n : Nat) : Int :=
  let want := if a = 0 then 0 else if a = 1 ∨ a = -1 then 1 else never
  if a < 0 ∧ n % 2 = 1 then -want else want
theorem pow_great (a : Int) {n : Nat} (hn : 62 ≤ n) : clip (a ^ n) = great a n := by
  unfold great
  by_cases h0 : a = 0
  · subst h0; rw [zero_pow (by omega)]; rfl
  · by_cases h1 : a = 1
    · subst h1; rw [one_pow]; rfl
    · by_cases hm : a = -1
      · subst hm
        rcases Nat.mod_two_eq_zero_or_one n with e | e
        · rw [neg_pow_even e, one_pow]; simp [e]; rfl
        · rw [neg_pow_odd e, one_pow]; simp [e]; rfl
      · by_cases hp : 0 < a
        · rw [clip_pow_big (by omega) hn]; simp [h0, h1, hm]; omega
        · have hb := clip_pow_big (a := -a) (by omega) hn
          rcases Nat.mod_two_eq_zero_or_one n with e | e
          · have := neg_pow_even (a := -a) e
            rw [Int.neg_neg] at this
            rw [this, hb]; simp [h0, h1, hm, e]
          · have := neg_pow_odd (a := -a) e
            rw [Int.neg_neg] at this
            rw [this, clip_neg, hb]; simp [h0, h1, hm, e]; omega
theorem great_parity (a : Int) {m n : Nat} (h : m % 2 = n % 2) : great a m = great a n := by
  unfold great; rw [h]
theorem pow_cut (a : Int) {n : Nat} (hn : 100 < n) : clip (a ^ (100 + n % 2)) = clip (a ^ n) := by
  rw [pow_great a (by omega), pow_great a (by omega)]; exact great_parity a (by omega)
theorem pow_bit (a : Int) (n k : Nat) : clip (a ^ (n % 2 ^ (k + 1))) = if n / 2 ^ k % 2 = 1 then mul (clip (a ^ (n % 2 ^ k))) (clip (a ^ (2 ^ k))) else clip (a ^ (n % 2 ^ k)) := by
  have e : n % 2 ^ (k + 1) = n % 2 ^ k + 2 ^ k * (n / 2 ^ k % 2) := by
    rw [Nat.pow_succ, Nat.mod_mul]
  rw [e]
  split
  · rename_i h; rw [h, Nat.mul_one, Int.pow_add, mul_clips]
  · rename_i h; rw [show n / 2 ^ k % 2 = 0 by omega]; simp
theorem pow_square (a : Int) (k : Nat) {x : Int} (h : clip x = clip (a ^ (2 ^ k))) : clip (mul x x) = clip (a ^ (2 ^ (k + 1))) := by
  unfold mul; rw [h, clip_clip, clip_mul, ← Int.pow_add]; congr 2; rw [Nat.pow_succ]; omega
end Sat
namespace Sat
theorem clip_num (a : Int) : -4611686018427387904 ≤ clip a ∧ clip a ≤ 4611686018427387904 := clip_bd a
theorem clip_hi {a : Int} (h : 4611686018427387904 < a) : clip a = 4611686018427387904 := clip_ge (by have := never_def; omega)
theorem clip_lo {a : Int} (h : a < -4611686018427387904) : clip a = -4611686018427387904 := clip_le (by have := never_def; omega)
theorem clip_mid {a : Int} (h : -4611686018427387904 ≤ a) (h' : a ≤ 4611686018427387904) : clip a = a := clip_id (by have := never_def; omega)
theorem clip_three (a : Int) : (4611686018427387904 < a ∧ clip a = 4611686018427387904) ∨ (a < -4611686018427387904 ∧ clip a = -4611686018427387904) ∨ (-4611686018427387904 ≤ a ∧ a ≤ 4611686018427387904 ∧ clip a = a) := by
  by_cases h : 4611686018427387904 < a
  · exact .inl ⟨h, clip_hi h⟩
  · by_cases h' : a < -4611686018427387904
    · exact .inr (.inl ⟨h', clip_lo h'⟩)
    · exact .inr (.inr ⟨by omega, by omega, clip_mid (by omega) (by omega)⟩)
end Sat
namespace Sat
/-! ### exact sums and products, quotients: the result and the error (0: OK, 7: ErrOver, 2: ErrArg) -/
def fits (a : Int) : Bool := decide (-9223372036854775808 ≤ a) && decide (a ≤ 9223372036854775807)
theorem fits_iff (a : Int) : fits a = true ↔ (-9223372036854775808 ≤ a ∧ a ≤ 9223372036854775807) := by simp [fits]
def plusV (a b : Int) : Int := if fits (a + b) then a + b else 0
def plusE (a b : Int) : Int := if fits (a + b) then 0 else 7
def timesV (a b : Int) : Int := if fits (a * b) then a * b else 0
def timesE (a b : Int) : Int := if fits (a * b) then 0 else 7
def divQ (a b : Int) : Int := if b < 1 then 0 else a / b
def divR (a b : Int) : Int := if b < 1 then 0 else a % b
def divE (b : Int) : Int := if b < 1 then 2 else 0
def ceilV (a b : Int) : Int := if b < 1 then 0 else if 0 < a % b then a / b + 1 else a / b
theorem tdiv_neg {a b : Int} (h : 0 < b) (hr : a.tmod b < 0) : a / b = a.tdiv b - 1 ∧ a % b = a.tmod b + b := by
  have h1 := Int.mul_tdiv_add_tmod a b
  have h2 := Int.tmod_lt_of_pos a h
  have h3 : -b < a.tmod b := by
    have := Int.lt_tmod_of_pos a h; exact this
  refine (Int.ediv_emod_unique h).2 ⟨?_, by omega, by omega⟩
  rw [Int.mul_sub]; omega
theorem tdiv_pos {a b : Int} (h : 0 < b) (hr : 0 ≤ a.tmod b) : a / b = a.tdiv b ∧ a % b = a.tmod b := by
  have h1 := Int.mul_tdiv_add_tmod a b
  have h2 := Int.tmod_lt_of_pos a h
  exact (Int.ediv_emod_unique h).2 ⟨by omega, by omega, by omega⟩
theorem tdiv_bd (a b : Int) : -(if a < 0 then -a else a) ≤ a.tdiv b ∧ a.tdiv b ≤ (if a < 0 then -a else a) := by
  have h0 := Int.natAbs_tdiv_le_natAbs a b
  split <;> omega
theorem tmod_bd {a b : Int} (h : 0 < b) : -b < a.tmod b ∧ a.tmod b < b := ⟨Int.lt_tmod_of_pos a h, Int.tmod_lt_of_pos a h⟩
end Sat
namespace Sat
theorem ediv_room {a b : Int} (h : 1 ≤ b) (h1 : -9223372036854775808 ≤ a) (h2 : a ≤ 9223372036854775807) :
    -9223372036854775808 ≤ a / b ∧ a / b ≤ 9223372036854775807 ∧ (0 < a % b → a / b + 1 ≤ 9223372036854775807) := by
  have e := Int.mul_ediv_add_emod a b
  have hr := Int.emod_nonneg a (show b ≠ 0 by omega)
  have hl := Int.emod_lt_of_pos a (show 0 < b by omega)
  by_cases hq : 0 ≤ a / b
  · have := Int.mul_le_mul_of_nonneg_right h hq
    refine ⟨by omega, by omega, fun hp => by omega⟩
  · have := Int.mul_le_mul_of_nonneg_right h (show 0 ≤ -(a / b) - 1 by omega)
    have e2 : b * (-(a / b) - 1) = -(b * (a / b)) - b := by rw [Int.mul_sub, Int.mul_neg]; omega
    refine ⟨by omega, by omega, fun hp => by omega⟩
end Sat
