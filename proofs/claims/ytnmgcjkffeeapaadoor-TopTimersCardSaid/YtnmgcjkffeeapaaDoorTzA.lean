/- The contracts of math/bits.TrailingZeros64 and of bits.Next. -/
import Derived.Test.YtnmgcjkffeeapaaDoorBit
import Derived.Lib.LaidTab
import Derived.Lib.AppendIntMem
namespace Go.Proofs.YtnmgcjkffeeapaaDoor
open Go.RowKit
set_option linter.unusedVariables false
set_option linter.unusedSimpArgs false
def tzTab : List Int := [0, 1, 56, 2, 57, 49, 28, 3, 61, 58, 42, 50, 38, 29, 17, 4, 62, 47, 59, 36, 45, 43, 51, 22, 53, 39, 33, 30, 24, 18, 12, 5, 63, 55, 48, 27, 60, 41, 37, 16, 46, 35, 44, 21, 52, 32, 23, 11, 54, 26, 40, 15, 34, 20, 31, 10, 25, 14, 19, 9, 13, 8, 7, 6]
def Tab (w : World) : Prop := ∀ i, i < 64 → w.cell? ⟨0, i, none⟩ = some (.int .u8 (tzTab.getD i 0))
theorem gTab : Tryd.prog.globalNamed "math/bits.deBruijn64tab" = some 0 := by kernel_rfl
theorem Tab.of {w : World} (h : Lib.TabIs Tryd.prog w "math/bits.deBruijn64tab" .u8 tzTab) : Tab w := fun i hi => Lib.TabIs.cell h gTab i hi
theorem Tab.cell {w : World} (h : Tab w) (i : Nat) (hi : i < 64) : w.cell? ⟨0, i, none⟩ = some (.int .u8 (tzTab.getD i 0)) := h i hi
theorem Tab.later {a b : World} (h : Tab a) (q : Q a b) : Tab b := fun i hi => keepc q (h i hi)
theorem tz_tab : ∀ k : Nat, k < 64 → (2 ^ k * 285870213051353865 % 18446744073709551616 / 288230376151711744) < 64 ∧ tzTab.getD (2 ^ k * 285870213051353865 % 18446744073709551616 / 288230376151711744) 0 = (k : Int) := by decide
/-- the steps of TrailingZeros64, as equations between numbers -/
theorem tz_steps (x : Nat) (h0 : 0 < x) (h : x < 2 ^ 64) : ∃ y z m idx : Nat, IntKind.u64.wrap (-(x : Int)) = y ∧ bits .and .u64 (x : Int) (y : Int) = z ∧ IntKind.u64.wrap ((z : Int) * 285870213051353865) = m ∧ (m : Int) / 288230376151711744 = idx ∧ idx < 64 ∧ tzTab.getD idx 0 = (tz x : Int) := by
  obtain ⟨t1, t2⟩ := tz_tab (tz x) (tz_spec h0 h).1
  refine ⟨2 ^ 64 - x, 2 ^ tz x, 2 ^ tz x * 285870213051353865 % 18446744073709551616, _, ?_, ?_, ?_, ?_, t1, t2⟩
  · simp only [IntKind.wrap, IntKind.bits, IntKind.signed]
    simp
    omega
  · rw [bu_and h (by omega), low_bit h0 h]
  · have e : (((2 ^ tz x : Nat) : Int) * 285870213051353865) = ((2 ^ tz x * 285870213051353865 : Nat) : Int) := by simp
    rw [e]
    generalize 2 ^ tz x * 285870213051353865 = m
    simp only [IntKind.wrap, IntKind.bits, IntKind.signed]
    simp
  · generalize 2 ^ tz x * 285870213051353865 % 18446744073709551616 = m
    simp
theorem tz_any (x : Nat) (h0 : 0 < x) (h : x < 2 ^ 64) (w : World) (hT : Tab w) : Calls Tryd.prog 42 #[.int .u64 (x : Int)] w fun e w' => e = .returned (.int .i64 (tz x : Int)) ∧ w = w' := by
  have y1 : ((x : Int) == 0) = false := beq_f (by omega)
  have hk := (tz_spec h0 h).1
  obtain ⟨y, z, m, idx, e1, e2, e3, e4, hi, ht⟩ := tz_steps x h0 h
  have hc := hT.cell idx hi
  rw [ht] at hc
  have y2 : (0 : Int) ≤ (idx : Int) ∧ (idx : Int) < 64 := by omega
  generalize tz x = k at *
  have y3 : (0 : Int) ≤ (k : Int) ∧ (k : Int) < 64 := by omega
  clear hT ht h h0 hk hi
  go_enter Tryd.func42, Tryd.ntmps42
  go_wp2_with fail
  go_ret
  exact ⟨rfl, rfl⟩
theorem nx_bits (s f i : Nat) : (s / 2 ^ f * 2 ^ f).testBit i = (decide (f ≤ i) && s.testBit i) := by
  rw [Nat.mul_comm, Nat.testBit_two_pow_mul]
  by_cases h : f ≤ i
  · simp only [h, decide_true, Bool.true_and]
    rw [Nat.testBit_div_two_pow]
    congr 1
    omega
  · simp [h]
/-- what Next finds -/
theorem nx_spec {s f : Nat} (hs : s < 2 ^ 64) : (s / 2 ^ f * 2 ^ f = 0 → ∀ i, f ≤ i → s.testBit i = false) ∧ (0 < s / 2 ^ f * 2 ^ f → f ≤ tz (s / 2 ^ f * 2 ^ f) ∧ tz (s / 2 ^ f * 2 ^ f) < 64 ∧ s.testBit (tz (s / 2 ^ f * 2 ^ f)) = true ∧ ∀ i, f ≤ i → i < tz (s / 2 ^ f * 2 ^ f) → s.testBit i = false) := by
  have hle : s / 2 ^ f * 2 ^ f ≤ s := Nat.div_mul_le_self _ _
  refine ⟨fun h i hi => ?_, fun h => ?_⟩
  · have := nx_bits s f i
    rw [h] at this
    simpa [hi] using this.symm
  · obtain ⟨t1, t2, t3⟩ := tz_spec h (by omega)
    generalize tz (s / 2 ^ f * 2 ^ f) = k at *
    rw [nx_bits] at t2
    simp at t2
    refine ⟨t2.1, t1, t2.2, fun i hi hk => ?_⟩
    have := t3 i hk
    rw [nx_bits] at this
    simpa [hi] using this
theorem nx_wrap {s f : Nat} (hs : s < 2 ^ 64) : IntKind.u64.wrap ((s : Int) / 2 ^ f * 2 ^ f) = ((s / 2 ^ f * 2 ^ f : Nat) : Int) := by
  have hle : s / 2 ^ f * 2 ^ f ≤ s := Nat.div_mul_le_self _ _
  have e : ((s : Int) / 2 ^ f * 2 ^ f) = ((s / 2 ^ f * 2 ^ f : Nat) : Int) := by simp
  rw [e]
  exact u64_wrap (by omega)
theorem nx_no (s f : Nat) (w : World) (hs : s < 2 ^ 64) (hf : f ≤ 63) (h : s / 2 ^ f * 2 ^ f = 0) : Calls Tryd.prog 33 #[.int .u64 (s : Int), .int .i64 (f : Int)] w fun e w' => e = .returned (.tuple #[.int .i64 0, .bool false]) ∧ w = w' := by
  have y1 : decide ((63 : Int) < (f : Int)) = false := by simp; omega
  have y2 : (0 : Int) ≤ (f : Int) := by omega
  have hw := nx_wrap (f := f) hs
  rw [h] at hw
  clear h
  go_enter Tryd.func33, Tryd.ntmps33
  go_wp2_with fail
  go_ret2
  exact ⟨rfl, rfl⟩
theorem nx_yes (s f : Nat) (w : World) (hT : Tab w) (hs : s < 2 ^ 64) (hf : f ≤ 63) (h : 0 < s / 2 ^ f * 2 ^ f) : Calls Tryd.prog 33 #[.int .u64 (s : Int), .int .i64 (f : Int)] w fun e w' => e = .returned (.tuple #[.int .i64 (tz (s / 2 ^ f * 2 ^ f) : Int), .bool true]) ∧ w = w' := by
  have y1 : decide ((63 : Int) < (f : Int)) = false := by simp; omega
  have y2 : (0 : Int) ≤ (f : Int) := by omega
  have hw := nx_wrap (f := f) hs
  have hle : s / 2 ^ f * 2 ^ f ≤ s := Nat.div_mul_le_self _ _
  generalize s / 2 ^ f * 2 ^ f = m at *
  have kt := tz_any m h (by omega) w hT
  have y3 : ((m : Int) == 0) = false := beq_f (by omega)
  generalize tz m = k at *
  clear h hs hle
  go_enter Tryd.func33, Tryd.ntmps33
  go_wp2_with (go_at_call 42; (with_reducible refine kt.mono ?_); rintro e w1 ⟨rfl, rfl⟩)
  go_ret2
  exact ⟨rfl, rfl⟩
end Go.Proofs.YtnmgcjkffeeapaaDoor
