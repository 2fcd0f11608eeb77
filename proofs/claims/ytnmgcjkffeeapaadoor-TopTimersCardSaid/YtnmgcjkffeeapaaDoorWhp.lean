/- A timer wheel of four levels, as mathematics: no program in sight. -/
namespace Go.Proofs.YtnmgcjkffeeapaaDoor
namespace Whp
/-- which of the 257 rows a timer of time a stands in, seen from f -/
def loc (a f : Nat) : Nat := if a / 64 = f / 64 then a % 64 else if a / 4096 = f / 4096 then 64 + a / 64 % 64 else if a / 262144 = f / 262144 then 128 + a / 4096 % 64 else if a / 16777216 = f / 16777216 then 192 + a / 262144 % 64 else 256
theorem loc_lt (a f : Nat) : loc a f < 257 := by
  unfold loc
  split
  · omega
  · split
    · omega
    · split
      · omega
      · split <;> omega
theorem loc_enter {a f f' : Nat} (h : f ≤ f') (k : f' ≤ a) : loc a f = loc a f' ∨ (loc a f = 256 ∧ f / 16777216 ≠ f' / 16777216) ∨ loc a f = 192 + f' / 262144 % 64 ∨ loc a f = 128 + f' / 4096 % 64 ∨ loc a f = 64 + f' / 64 % 64 := by
  unfold loc
  by_cases h1 : a / 64 = f / 64
  · left
    rw [if_pos h1, if_pos (by omega)]
  · rw [if_neg h1]
    by_cases h2 : a / 4096 = f / 4096
    · rw [if_pos h2]
      by_cases k1 : a / 64 = f' / 64
      · right; right; right; right; omega
      · left
        rw [if_neg k1, if_pos (by omega)]
    · rw [if_neg h2]
      by_cases h3 : a / 262144 = f / 262144
      · rw [if_pos h3]
        by_cases k2 : a / 4096 = f' / 4096
        · right; right; right; left; omega
        · left
          rw [if_neg (by omega), if_neg k2, if_pos (by omega)]
      · rw [if_neg h3]
        by_cases h4 : a / 16777216 = f / 16777216
        · rw [if_pos h4]
          by_cases k3 : a / 262144 = f' / 262144
          · right; right; left; omega
          · left
            rw [if_neg (by omega), if_neg (by omega), if_neg k3, if_pos (by omega)]
        · rw [if_neg h4]
          by_cases k4 : a / 16777216 = f' / 16777216
          · right; left; exact ⟨rfl, by omega⟩
          · left
            rw [if_neg (by omega), if_neg (by omega), if_neg (by omega), if_neg k4]
/-- where a row begins -/
def beg (j f : Nat) : Nat := if j < 64 then f / 64 * 64 + j else if j < 128 then (f / 4096 * 64 + (j - 64)) * 64 else if j < 192 then (f / 262144 * 64 + (j - 128)) * 4096 else (f / 16777216 * 64 + (j - 192)) * 262144
/-- how long a row is -/
def wid (j : Nat) : Nat := if j < 64 then 1 else if j < 128 then 64 else if j < 192 then 4096 else 262144
theorem loc_cases (a f : Nat) : (a / 64 = f / 64 ∧ loc a f = a % 64) ∨ (a / 64 ≠ f / 64 ∧ a / 4096 = f / 4096 ∧ loc a f = 64 + a / 64 % 64) ∨ (a / 4096 ≠ f / 4096 ∧ a / 262144 = f / 262144 ∧ loc a f = 128 + a / 4096 % 64) ∨ (a / 262144 ≠ f / 262144 ∧ a / 16777216 = f / 16777216 ∧ loc a f = 192 + a / 262144 % 64) ∨ (a / 16777216 ≠ f / 16777216 ∧ loc a f = 256) := by
  unfold loc
  split
  · left; omega
  · split
    · right; left; omega
    · split
      · right; right; left; omega
      · split
        · right; right; right; left; omega
        · right; right; right; right; omega
theorem qs (a : Nat) : a / 64 / 64 = a / 4096 ∧ a / 4096 / 64 = a / 262144 ∧ a / 262144 / 64 = a / 16777216 := by
  refine ⟨?_, ?_, ?_⟩ <;> rw [Nat.div_div_eq_div_mul]
theorem beg1 {j f : Nat} (h : j < 64) : beg j f = f / 64 * 64 + j := by unfold beg; rw [if_pos h]
theorem beg2 {j f : Nat} (h : 64 ≤ j) (k : j < 128) : beg j f = (f / 4096 * 64 + (j - 64)) * 64 := by unfold beg; rw [if_neg (by omega), if_pos k]
theorem beg3 {j f : Nat} (h : 128 ≤ j) (k : j < 192) : beg j f = (f / 262144 * 64 + (j - 128)) * 4096 := by unfold beg; rw [if_neg (by omega), if_neg (by omega), if_pos k]
theorem beg4 {j f : Nat} (h : 192 ≤ j) : beg j f = (f / 16777216 * 64 + (j - 192)) * 262144 := by unfold beg; rw [if_neg (by omega), if_neg (by omega), if_neg (by omega)]
theorem wid1 {j : Nat} (h : j < 64) : wid j = 1 := by unfold wid; rw [if_pos h]
theorem wid2 {j : Nat} (h : 64 ≤ j) (k : j < 128) : wid j = 64 := by unfold wid; rw [if_neg (by omega), if_pos k]
theorem wid3 {j : Nat} (h : 128 ≤ j) (k : j < 192) : wid j = 4096 := by unfold wid; rw [if_neg (by omega), if_neg (by omega), if_pos k]
theorem wid4 {j : Nat} (h : 192 ≤ j) : wid j = 262144 := by unfold wid; rw [if_neg (by omega), if_neg (by omega), if_neg (by omega)]
theorem beg_le {a f j : Nat} (h : f ≤ a) (hj : j < 256) (k : j ≤ loc a f) : beg j f ≤ a := by
  obtain ⟨q1, q2, q3⟩ := qs a
  obtain ⟨p1, p2, p3⟩ := qs f
  have hc := loc_cases a f
  generalize loc a f = x at *
  by_cases j1 : j < 64
  · rw [beg1 j1]; omega
  · by_cases j2 : j < 128
    · rw [beg2 (by omega) j2]; omega
    · by_cases j3 : j < 192
      · rw [beg3 (by omega) j3]; omega
      · rw [beg4 (by omega)]; omega
theorem loc_beg {a f j : Nat} (h : f ≤ a) (hj : j < 256) (k : loc a f = j) : beg j f ≤ a ∧ a < beg j f + wid j ∧ f ≤ beg j f := by
  obtain ⟨q1, q2, q3⟩ := qs a
  obtain ⟨p1, p2, p3⟩ := qs f
  have hc := loc_cases a f
  rw [k] at hc
  by_cases j1 : j < 64
  · rw [beg1 j1, wid1 j1]; omega
  · by_cases j2 : j < 128
    · rw [beg2 (by omega) j2, wid2 (by omega) j2]; omega
    · by_cases j3 : j < 192
      · rw [beg3 (by omega) j3, wid3 (by omega) j3]; omega
      · rw [beg4 (by omega), wid4 (by omega)]; omega
/-- entering a later second no timer goes up .. -/
theorem lev_mono {a f f' : Nat} (h : f ≤ f') (k : f' ≤ a) : loc a f' / 64 ≤ loc a f / 64 := by
  obtain ⟨q1, q2, q3⟩ := qs a
  have hc := loc_cases a f
  have hd := loc_cases a f'
  generalize loc a f = x at *
  generalize loc a f' = y at *
  omega
/-- .. and those of the row where it begins go down -/
theorem lev_down {a f j : Nat} (h : f ≤ a) (h1 : 64 ≤ j) (hj : j < 256) (k : loc a f = j) : loc a (beg j f) / 64 < j / 64 := by
  obtain ⟨b1, b2, b3⟩ := loc_beg h hj k
  obtain ⟨q1, q2, q3⟩ := qs a
  by_cases j2 : j < 128
  · rw [wid2 h1 j2] at b2
    have hd := loc_cases a (beg j f)
    have e := beg2 (f := f) h1 j2
    generalize loc a (beg j f) = y at *
    generalize beg j f = b at *
    omega
  · by_cases j3 : j < 192
    · rw [wid3 (by omega) j3] at b2
      have hd := loc_cases a (beg j f)
      have e := beg3 (f := f) (by omega) j3
      generalize loc a (beg j f) = y at *
      generalize beg j f = b at *
      omega
    · rw [wid4 (by omega)] at b2
      have hd := loc_cases a (beg j f)
      have e := beg4 (j := j) (f := f) (by omega)
      generalize loc a (beg j f) = y at *
      generalize beg j f = b at *
      omega
theorem lev_far {a m f : Nat} (h : f ≤ a) (k : loc a f = 256) (hm : m = a / 16777216 * 16777216) : f ≤ m ∧ m ≤ a ∧ loc a m / 64 < 4 := by
  rcases loc_cases a f with ⟨h1, h2⟩ | ⟨h0, h1, h2⟩ | ⟨h0, h1, h2⟩ | ⟨h0, h1, h2⟩ | ⟨h1, h2⟩ <;> rw [h2] at k
  · omega
  · omega
  · omega
  · omega
  · refine ⟨by omega, by omega, ?_⟩
    rcases loc_cases a m with ⟨g1, g2⟩ | ⟨g0, g1, g2⟩ | ⟨g0, g1, g2⟩ | ⟨g0, g1, g2⟩ | ⟨g1, g2⟩ <;> rw [g2] <;> omega
end Whp
end Go.Proofs.YtnmgcjkffeeapaaDoor
