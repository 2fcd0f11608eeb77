/- The walk of the law ZoneSpells. -/
import Derived.Test.YtpenjmflkhhdgaaZonP
namespace Go.Proofs.Ytpenjmflkhhdgaa
open Go.RowKit
set_option linter.unusedVariables false
theorem sdx (x0 x1 x2 x3 x4 x5 : Int) (h0 : 0 ≤ x0 ∧ x0 < 256) (h1 : 0 ≤ x1 ∧ x1 < 256) (h2 : 0 ≤ x2 ∧ x2 < 256) (h3 : 0 ≤ x3 ∧ x3 < 256) (h4 : 0 ≤ x4 ∧ x4 < 256) (h5 : 0 ≤ x5 ∧ x5 < 256) (w : World) :
    (Instr.index 9 (.string (b6 x0 x1 x2 x3 x4 x5)) (.int .i64 0)).run Try.prog w = .ok (.int .u8 x0) w ∧ (Instr.index 9 (.string (b6 x0 x1 x2 x3 x4 x5)) (.int .i64 1)).run Try.prog w = .ok (.int .u8 x1) w ∧ (Instr.index 9 (.string (b6 x0 x1 x2 x3 x4 x5)) (.int .i64 2)).run Try.prog w = .ok (.int .u8 x2) w ∧ (Instr.index 9 (.string (b6 x0 x1 x2 x3 x4 x5)) (.int .i64 3)).run Try.prog w = .ok (.int .u8 x3) w ∧ (Instr.index 9 (.string (b6 x0 x1 x2 x3 x4 x5)) (.int .i64 4)).run Try.prog w = .ok (.int .u8 x4) w ∧ (Instr.index 9 (.string (b6 x0 x1 x2 x3 x4 x5)) (.int .i64 5)).run Try.prog w = .ok (.int .u8 x5) w := by
  have hb : ∀ x : Int, 0 ≤ x ∧ x < 256 → (((UInt8.ofNat x.toNat).toNat : Nat) : Int) = x := by
    intro x hx; simp; omega
  have g0 : (Instr.index 9 (.string (b6 x0 x1 x2 x3 x4 x5)) (.int .i64 0)).run Try.prog w = .ok (.int .u8 ((UInt8.ofNat x0.toNat).toNat : Int)) w := by kernel_rfl
  have g1 : (Instr.index 9 (.string (b6 x0 x1 x2 x3 x4 x5)) (.int .i64 1)).run Try.prog w = .ok (.int .u8 ((UInt8.ofNat x1.toNat).toNat : Int)) w := by kernel_rfl
  have g2 : (Instr.index 9 (.string (b6 x0 x1 x2 x3 x4 x5)) (.int .i64 2)).run Try.prog w = .ok (.int .u8 ((UInt8.ofNat x2.toNat).toNat : Int)) w := by kernel_rfl
  have g3 : (Instr.index 9 (.string (b6 x0 x1 x2 x3 x4 x5)) (.int .i64 3)).run Try.prog w = .ok (.int .u8 ((UInt8.ofNat x3.toNat).toNat : Int)) w := by kernel_rfl
  have g4 : (Instr.index 9 (.string (b6 x0 x1 x2 x3 x4 x5)) (.int .i64 4)).run Try.prog w = .ok (.int .u8 ((UInt8.ofNat x4.toNat).toNat : Int)) w := by kernel_rfl
  have g5 : (Instr.index 9 (.string (b6 x0 x1 x2 x3 x4 x5)) (.int .i64 5)).run Try.prog w = .ok (.int .u8 ((UInt8.ofNat x5.toNat).toNat : Int)) w := by kernel_rfl
  rw [hb _ h0] at g0; rw [hb _ h1] at g1; rw [hb _ h2] at g2; rw [hb _ h3] at g3; rw [hb _ h4] at g4; rw [hb _ h5] at g5
  exact ⟨g0, g1, g2, g3, g4, g5⟩
set_option maxRecDepth 20000 in
set_option maxHeartbeats 2000000 in
theorem zoneSpells_walk (z : Int) (s : ByteArray) (wz : (Lit.int .i64 z).wf = true) (hlen : s.size < 9223372036854775808) (w : World) :
    Calls Try.prog 6 #[.int .i64 z, .string s] w fun e w' => e = .returned (.bool true) ∧ Q w w' := by
  clear wz
  by_cases hl : 1000 < (s.size : Int)
  · go_enter Try.func6, Try.ntmps6
    go_wp2_with (go_at_call 13; refine (works_any _).mono ?_; rintro e w9 ⟨rfl, hq9⟩)
    go_ret
    exact ⟨rfl, by repeat (first | exact Q.refl _ | assumption | refine Q.alloc ?_ _ | refine Q.drew ?_ | refine Q.drewN ?_ _ | refine Q.trans ?_ (by assumption))⟩
  by_cases hz : Zn.zOk z
  · have b1 := hz
    unfold Zn.zOk at b1
    by_cases hn : z < 0
    · obtain ⟨A, hA⟩ : ∃ A, -z = A := ⟨_, rfl⟩
      have e0 : Zn.c0 z = 45 := if_pos hn
      have ef : Zn.far z = A := by unfold Zn.far; rw [if_pos hn, hA]
      have cf := cfac z hz
      have c4b : Zn.c4 z ≤ 53 := by unfold Zn.c4; rw [ef]; omega
      obtain ⟨C1, h1⟩ : ∃ C, Zn.c1 z = C := ⟨_, rfl⟩
      obtain ⟨C2, h2⟩ : ∃ C, Zn.c2 z = C := ⟨_, rfl⟩
      obtain ⟨C4, h4⟩ : ∃ C, Zn.c4 z = C := ⟨_, rfl⟩
      obtain ⟨C5, h5⟩ : ∃ C, Zn.c5 z = C := ⟨_, rfl⟩
      obtain ⟨T, hT⟩ : ∃ T, txt z = T := ⟨_, rfl⟩
      have sx := sdx 45 C1 C2 58 C4 C5
      have tz := text_ok z hz
      have pz := parse_hit z hz
      have tb := txt_b6 z
      rw [hT] at tz pz tb
      rw [e0, h1, h2, h4, h5] at tb
      rw [ef, h1, h2, h4, h5] at cf
      rw [h4] at c4b
      obtain ⟨f1, f2, f4, f5, ff⟩ := cf
      have sx := fun w2 => sx (by omega) (by omega) (by omega) (by omega) (by omega) (by omega) w2
      rw [← tb] at sx
      have i0 := fun w2 => (sx w2).1
      have i1 := fun w2 => (sx w2).2.1
      have i2 := fun w2 => (sx w2).2.2.1
      have i3 := fun w2 => (sx w2).2.2.2.1
      have i4 := fun w2 => (sx w2).2.2.2.2.1
      have i5 := fun w2 => (sx w2).2.2.2.2.2
      have hsz : T.size = 6 := by rw [tb]; rfl
      have hff : (C1 - 48) * 600 + (C2 - 48) * 60 + (C4 - 48) * 10 + (C5 - 48) = A := by omega
      have hmx : (if z < A then A else z) = A := by split <;> omega
      clear sx tb e0 ef h1 h2 h4 h5 hT ff hz
      by_cases hx : ∃ y, Zn.zOk y ∧ s = txt y
      · obtain ⟨y, hy, hs⟩ := hx
        have ps := parse_hit y hy
        have ty := text_ok y hy
        rw [← hs] at ps ty
        have hb : (s.toList == s.toList) = true := bs_t rfl
        clear hs
        go_enter Try.func6, Try.ntmps6
        go_wp2_with (first
          | (go_at_call 14; with_reducible refine (tz _).mono ?_; rintro e w1 ⟨rfl, hq1⟩)
          | (go_at_call 16; with_reducible refine (pz _).mono ?_; rintro e w3 ⟨rfl, hq3⟩)
          | (go_at_call 14; with_reducible refine (ty _).mono ?_; rintro e w2 ⟨rfl, hq2⟩)
          | (go_at_call 16; with_reducible refine (ps _).mono ?_; rintro e w4 ⟨rfl, hq4⟩)
          | (go_at_call 13; refine (works_any _).mono ?_; rintro e w9 ⟨rfl, hq9⟩))
        go_quiet (fail)
        go_wp2_with (first
          | (go_at_call 14; with_reducible refine (tz _).mono ?_; rintro e w1 ⟨rfl, hq1⟩)
          | (go_at_call 16; with_reducible refine (pz _).mono ?_; rintro e w3 ⟨rfl, hq3⟩)
          | (go_at_call 14; with_reducible refine (ty _).mono ?_; rintro e w2 ⟨rfl, hq2⟩)
          | (go_at_call 16; with_reducible refine (ps _).mono ?_; rintro e w4 ⟨rfl, hq4⟩)
          | (go_at_call 13; refine (works_any _).mono ?_; rintro e w9 ⟨rfl, hq9⟩))
        go_ret
        exact ⟨rfl, by repeat (first | exact Q.refl _ | assumption | refine Q.alloc ?_ _ | refine Q.drew ?_ | refine Q.drewN ?_ _ | refine Q.trans ?_ (by assumption))⟩
      · have ps := parse_miss s (fun k hk e => hx ⟨k, hk, e⟩)
        clear hx
        go_enter Try.func6, Try.ntmps6
        go_wp2_with (first
          | (go_at_call 14; with_reducible refine (tz _).mono ?_; rintro e w1 ⟨rfl, hq1⟩)
          | (go_at_call 16; with_reducible refine (pz _).mono ?_; rintro e w3 ⟨rfl, hq3⟩)
          | (go_at_call 16; with_reducible refine (ps _).mono ?_; rintro e w4 ⟨rfl, hq4⟩)
          | (go_at_call 13; refine (works_any _).mono ?_; rintro e w9 ⟨rfl, hq9⟩))
        go_quiet (fail)
        go_wp2_with (first
          | (go_at_call 14; with_reducible refine (tz _).mono ?_; rintro e w1 ⟨rfl, hq1⟩)
          | (go_at_call 16; with_reducible refine (pz _).mono ?_; rintro e w3 ⟨rfl, hq3⟩)
          | (go_at_call 16; with_reducible refine (ps _).mono ?_; rintro e w4 ⟨rfl, hq4⟩)
          | (go_at_call 13; refine (works_any _).mono ?_; rintro e w9 ⟨rfl, hq9⟩))
        go_ret
        exact ⟨rfl, by repeat (first | exact Q.refl _ | assumption | refine Q.alloc ?_ _ | refine Q.drew ?_ | refine Q.drewN ?_ _ | refine Q.trans ?_ (by assumption))⟩
    · obtain ⟨A, hA⟩ : ∃ A, -z = A := ⟨_, rfl⟩
      have e0 : Zn.c0 z = 43 := if_neg hn
      have ef : Zn.far z = z := by unfold Zn.far; rw [if_neg hn]
      have cf := cfac z hz
      have c4b : Zn.c4 z ≤ 53 := by unfold Zn.c4; rw [ef]; omega
      obtain ⟨C1, h1⟩ : ∃ C, Zn.c1 z = C := ⟨_, rfl⟩
      obtain ⟨C2, h2⟩ : ∃ C, Zn.c2 z = C := ⟨_, rfl⟩
      obtain ⟨C4, h4⟩ : ∃ C, Zn.c4 z = C := ⟨_, rfl⟩
      obtain ⟨C5, h5⟩ : ∃ C, Zn.c5 z = C := ⟨_, rfl⟩
      obtain ⟨T, hT⟩ : ∃ T, txt z = T := ⟨_, rfl⟩
      have sx := sdx 43 C1 C2 58 C4 C5
      have tz := text_ok z hz
      have pz := parse_hit z hz
      have tb := txt_b6 z
      rw [hT] at tz pz tb
      rw [e0, h1, h2, h4, h5] at tb
      rw [ef, h1, h2, h4, h5] at cf
      rw [h4] at c4b
      obtain ⟨f1, f2, f4, f5, ff⟩ := cf
      have sx := fun w2 => sx (by omega) (by omega) (by omega) (by omega) (by omega) (by omega) w2
      rw [← tb] at sx
      have i0 := fun w2 => (sx w2).1
      have i1 := fun w2 => (sx w2).2.1
      have i2 := fun w2 => (sx w2).2.2.1
      have i3 := fun w2 => (sx w2).2.2.2.1
      have i4 := fun w2 => (sx w2).2.2.2.2.1
      have i5 := fun w2 => (sx w2).2.2.2.2.2
      have hsz : T.size = 6 := by rw [tb]; rfl
      have hff : (C1 - 48) * 600 + (C2 - 48) * 60 + (C4 - 48) * 10 + (C5 - 48) = z := by omega
      have hmx : (if z < A then A else z) = z := by split <;> omega
      clear sx tb e0 ef h1 h2 h4 h5 hT ff hz
      by_cases hx : ∃ y, Zn.zOk y ∧ s = txt y
      · obtain ⟨y, hy, hs⟩ := hx
        have ps := parse_hit y hy
        have ty := text_ok y hy
        rw [← hs] at ps ty
        have hb : (s.toList == s.toList) = true := bs_t rfl
        clear hs
        go_enter Try.func6, Try.ntmps6
        go_wp2_with (first
          | (go_at_call 14; with_reducible refine (tz _).mono ?_; rintro e w1 ⟨rfl, hq1⟩)
          | (go_at_call 16; with_reducible refine (pz _).mono ?_; rintro e w3 ⟨rfl, hq3⟩)
          | (go_at_call 14; with_reducible refine (ty _).mono ?_; rintro e w2 ⟨rfl, hq2⟩)
          | (go_at_call 16; with_reducible refine (ps _).mono ?_; rintro e w4 ⟨rfl, hq4⟩)
          | (go_at_call 13; refine (works_any _).mono ?_; rintro e w9 ⟨rfl, hq9⟩))
        go_quiet (fail)
        go_wp2_with (first
          | (go_at_call 14; with_reducible refine (tz _).mono ?_; rintro e w1 ⟨rfl, hq1⟩)
          | (go_at_call 16; with_reducible refine (pz _).mono ?_; rintro e w3 ⟨rfl, hq3⟩)
          | (go_at_call 14; with_reducible refine (ty _).mono ?_; rintro e w2 ⟨rfl, hq2⟩)
          | (go_at_call 16; with_reducible refine (ps _).mono ?_; rintro e w4 ⟨rfl, hq4⟩)
          | (go_at_call 13; refine (works_any _).mono ?_; rintro e w9 ⟨rfl, hq9⟩))
        go_ret
        exact ⟨rfl, by repeat (first | exact Q.refl _ | assumption | refine Q.alloc ?_ _ | refine Q.drew ?_ | refine Q.drewN ?_ _ | refine Q.trans ?_ (by assumption))⟩
      · have ps := parse_miss s (fun k hk e => hx ⟨k, hk, e⟩)
        clear hx
        go_enter Try.func6, Try.ntmps6
        go_wp2_with (first
          | (go_at_call 14; with_reducible refine (tz _).mono ?_; rintro e w1 ⟨rfl, hq1⟩)
          | (go_at_call 16; with_reducible refine (pz _).mono ?_; rintro e w3 ⟨rfl, hq3⟩)
          | (go_at_call 16; with_reducible refine (ps _).mono ?_; rintro e w4 ⟨rfl, hq4⟩)
          | (go_at_call 13; refine (works_any _).mono ?_; rintro e w9 ⟨rfl, hq9⟩))
        go_quiet (fail)
        go_wp2_with (first
          | (go_at_call 14; with_reducible refine (tz _).mono ?_; rintro e w1 ⟨rfl, hq1⟩)
          | (go_at_call 16; with_reducible refine (pz _).mono ?_; rintro e w3 ⟨rfl, hq3⟩)
          | (go_at_call 16; with_reducible refine (ps _).mono ?_; rintro e w4 ⟨rfl, hq4⟩)
          | (go_at_call 13; refine (works_any _).mono ?_; rintro e w9 ⟨rfl, hq9⟩))
        go_ret
        exact ⟨rfl, by repeat (first | exact Q.refl _ | assumption | refine Q.alloc ?_ _ | refine Q.drew ?_ | refine Q.drewN ?_ _ | refine Q.trans ?_ (by assumption))⟩
  · have b1 := hz
    unfold Zn.zOk at b1
    have o : z < -840 ∨ 840 < z := by omega
    clear b1
    by_cases hx : ∃ y, Zn.zOk y ∧ s = txt y
    · obtain ⟨y, hy, rfl⟩ := hx
      have hb : ((txt y).toList == (txt y).toList) = true := bs_t rfl
      rcases o with o | o
      all_goals
        go_enter Try.func6, Try.ntmps6
        go_wp2_with (first
          | (go_at_call 14; with_reducible refine (text_bad z hz _).mono ?_; rintro e w1 ⟨rfl, hq1⟩)
          | (go_at_call 14; with_reducible refine (text_ok y hy _).mono ?_; rintro e w2 ⟨rfl, hq2⟩)
          | (go_at_call 16; with_reducible refine (parse_hit y hy _).mono ?_; rintro e w3 ⟨rfl, hq3⟩)
          | (go_at_call 13; refine (works_any _).mono ?_; rintro e w9 ⟨rfl, hq9⟩))
        go_ret
        exact ⟨rfl, by repeat (first | exact Q.refl _ | assumption | refine Q.alloc ?_ _ | refine Q.drew ?_ | refine Q.drewN ?_ _ | refine Q.trans ?_ (by assumption))⟩
    · have hm : ∀ k, Zn.zOk k → s ≠ txt k := fun k hk e => hx ⟨k, hk, e⟩
      clear hx
      rcases o with o | o
      all_goals
        go_enter Try.func6, Try.ntmps6
        go_wp2_with (first
          | (go_at_call 14; with_reducible refine (text_bad z hz _).mono ?_; rintro e w1 ⟨rfl, hq1⟩)
          | (go_at_call 16; with_reducible refine (parse_miss s hm _).mono ?_; rintro e w3 ⟨rfl, hq3⟩)
          | (go_at_call 13; refine (works_any _).mono ?_; rintro e w9 ⟨rfl, hq9⟩))
        go_ret
        exact ⟨rfl, by repeat (first | exact Q.refl _ | assumption | refine Q.alloc ?_ _ | refine Q.drew ?_ | refine Q.drewN ?_ _ | refine Q.trans ?_ (by assumption))⟩
end Go.Proofs.Ytpenjmflkhhdgaa
