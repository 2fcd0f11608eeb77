/- The contract of zone.Parse: the zone whose text it is, or the error. -/
import Derived.Test.YtpenjmflkhhdgaaZonG
import Derived.Test.YtpenjmflkhhdgaaZonH
import Derived.Test.YtpenjmflkhhdgaaZonI
namespace Go.Proofs.Ytpenjmflkhhdgaa
open Go.RowKit
set_option linter.unusedVariables false
theorem txt_b6 (z : Int) : txt z = b6 (Zn.c0 z) (Zn.c1 z) (Zn.c2 z) 58 (Zn.c4 z) (Zn.c5 z) := rfl
theorem cfac (z : Int) (hz : Zn.zOk z) : (48 ≤ Zn.c1 z ∧ Zn.c1 z ≤ 57) ∧ (48 ≤ Zn.c2 z ∧ Zn.c2 z ≤ 57) ∧ (48 ≤ Zn.c4 z ∧ Zn.c4 z ≤ 57) ∧ (48 ≤ Zn.c5 z ∧ Zn.c5 z ≤ 57) ∧ 600 * (Zn.c1 z - 48) + 60 * (Zn.c2 z - 48) + 10 * (Zn.c4 z - 48) + (Zn.c5 z - 48) = Zn.far z := by
  have hf : 0 ≤ Zn.far z ∧ Zn.far z ≤ 840 := by unfold Zn.zOk at hz; unfold Zn.far; split <;> omega
  unfold Zn.c1 Zn.c2 Zn.c4 Zn.c5
  generalize Zn.far z = F at *
  omega
theorem parse_hit (z : Int) (hz : Zn.zOk z) (w : World) :
    Calls Try.prog 16 #[.string (txt z)] w fun e w' => e = .returned (.tuple #[.int .i64 z, .int .i64 0]) ∧ Q w w' := by
  obtain ⟨f1, f2, f4, f5, ff⟩ := cfac z hz
  rw [txt_b6]
  by_cases hn : z < 0
  · have e : Zn.far z = -z := if_pos hn
    have e0 : Zn.c0 z = 45 := if_pos hn
    have r := parse_same_n (Zn.c1 z) (Zn.c2 z) 58 (Zn.c4 z) (Zn.c5 z) (-z) z (by omega) f1 f2 f4 f5 (by omega) (by omega) hz (by simp [e0]) w
    rw [e0]
    exact r
  · have e : Zn.far z = z := if_neg hn
    have e0 : Zn.c0 z = 43 := if_neg hn
    exact parse_same_p (Zn.c0 z) (Zn.c1 z) (Zn.c2 z) 58 (Zn.c4 z) (Zn.c5 z) z (by omega) (by omega) f1 f2 f4 f5 (by omega) (by omega) hz (by simp) w
theorem parse_miss (s : ByteArray) (h : ∀ z, Zn.zOk z → s ≠ txt z) (w : World) :
    Calls Try.prog 16 #[.string s] w fun e w' => e = .returned (.tuple #[.int .i64 0, .int .i64 10]) ∧ Q w w' := by
  by_cases hl : s.size = 6
  · obtain ⟨x0, x1, x2, x3, x4, x5, h0, h1, h2, h3, h4, h5, rfl⟩ := b6_of s hl
    by_cases l1 : x1 < 48
    · exact parse_1l _ _ _ _ _ _ h0 h1 h2 h3 h4 h5 l1 w
    by_cases g1 : 57 < x1
    · exact parse_1g _ _ _ _ _ _ h0 h1 h2 h3 h4 h5 g1 w
    have d1 : 48 ≤ x1 ∧ x1 ≤ 57 := by omega
    by_cases l2 : x2 < 48
    · exact parse_2l _ _ _ _ _ _ h0 h1 h2 h3 h4 h5 d1 l2 w
    by_cases g2 : 57 < x2
    · exact parse_2g _ _ _ _ _ _ h0 h1 h2 h3 h4 h5 d1 g2 w
    have d2 : 48 ≤ x2 ∧ x2 ≤ 57 := by omega
    by_cases l4 : x4 < 48
    · exact parse_4l _ _ _ _ _ _ h0 h1 h2 h3 h4 h5 d1 d2 l4 w
    by_cases g4 : 57 < x4
    · exact parse_4g _ _ _ _ _ _ h0 h1 h2 h3 h4 h5 d1 d2 g4 w
    have d4 : 48 ≤ x4 ∧ x4 ≤ 57 := by omega
    by_cases l5 : x5 < 48
    · exact parse_5l _ _ _ _ _ _ h0 h1 h2 h3 h4 h5 d1 d2 d4 l5 w
    by_cases g5 : 57 < x5
    · exact parse_5g _ _ _ _ _ _ h0 h1 h2 h3 h4 h5 d1 d2 d4 g5 w
    have d5 : 48 ≤ x5 ∧ x5 ≤ 57 := by omega
    have key : ∀ n, Zn.zOk n → (!(Zn.c0 n == x0 && (Zn.c1 n == x1 && (Zn.c2 n == x2 && (58 == x3 && (Zn.c4 n == x4 && Zn.c5 n == x5)))))) = true := by
      intro n hz
      cases hβ : (Zn.c0 n == x0 && (Zn.c1 n == x1 && (Zn.c2 n == x2 && (58 == x3 && (Zn.c4 n == x4 && Zn.c5 n == x5))))) with
      | false => rfl
      | true =>
        simp only [Bool.and_eq_true, beq_iff_eq] at hβ
        obtain ⟨e0, e1, e2, e3, e4, e5⟩ := hβ
        exact absurd (by rw [txt_b6, e0, e1, e2, ← e3, e4, e5]) (h n hz)
    by_cases hs : x0 = 45
    · subst hs
      by_cases hz : Zn.zOk (-(600 * (x1 - 48) + 60 * (x2 - 48) + 10 * (x4 - 48) + (x5 - 48)))
      · exact parse_diff_n x1 x2 x3 x4 x5 _ _ h3 d1 d2 d4 d5 rfl rfl hz (key _ hz) w
      · exact parse_far_n x1 x2 x3 x4 x5 _ _ h3 d1 d2 d4 d5 rfl rfl hz w
    · by_cases hz : Zn.zOk (600 * (x1 - 48) + 60 * (x2 - 48) + 10 * (x4 - 48) + (x5 - 48))
      · exact parse_diff_p x0 x1 x2 x3 x4 x5 _ h0 h3 d1 d2 d4 d5 rfl hs hz (key _ hz) w
      · exact parse_far_p x0 x1 x2 x3 x4 x5 _ h0 h3 d1 d2 d4 d5 rfl hs hz w
  · exact parse_len s hl w
end Go.Proofs.Ytpenjmflkhhdgaa
