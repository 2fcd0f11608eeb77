/- The contract of the document's Parse: its parts. -/
import Derived.Test.YtdhlgmclogdplaaDoorTxtE
namespace Go.Proofs.YtdhlgmclogdplaaDoor
open Go.RowKit
set_option linter.unusedVariables false
set_option linter.unusedSimpArgs false
theorem cut_size (S : ByteArray) (a b : Nat) (hb : b ≤ S.size) : (S.extract a b).size = b - a := by
  rw [ByteArray.size_extract]; omega
theorem cut_gb (S : ByteArray) (a b i : Nat) (hb : b ≤ S.size) (hi : a + i < b) : gb (S.extract a b) i = gb S (a + i) := by
  have h1 : i < (S.extract a b).size := by rw [cut_size S a b hb]; omega
  unfold gb
  rw [dif_pos h1, dif_pos (by omega)]
  congr 2
  exact ByteArray.getElem_extract h1
theorem cut4 (S : ByteArray) (hs : S.size = 19) : num (S.extract 0 4) 4 = pt S 19 0 := by
  have g0 := cut_gb S 0 4 0 (by omega) (by omega)
  have g1 := cut_gb S 0 4 1 (by omega) (by omega)
  have g2 := cut_gb S 0 4 2 (by omega) (by omega)
  have g3 := cut_gb S 0 4 3 (by omega) (by omega)
  simp only [num, g0, g1, g2, g3]
  simp [pt, fb, kk]
  omega
theorem cut2 (S : ByteArray) (hs : S.size = 19) (a b j : Nat) (hb : b ≤ 19) (hab : b = a + 2) (hp : pt S 19 j = (gb S a - 48) * 10 + (gb S (a + 1) - 48)) : num (S.extract a b) 2 = pt S 19 j := by
  have g0 := cut_gb S a b 0 (by omega) (by omega)
  have g1 := cut_gb S a b 1 (by omega) (by omega)
  simp only [num, g0, g1, hp, Nat.add_zero]
  omega
theorem pt1 (S : ByteArray) : pt S 19 1 = (gb S 5 - 48) * 10 + (gb S 6 - 48) := by simp [pt, fb, kk]
theorem pt2 (S : ByteArray) : pt S 19 2 = (gb S 8 - 48) * 10 + (gb S 9 - 48) := by simp [pt, fb, kk]
theorem pt3 (S : ByteArray) : pt S 19 3 = (gb S 11 - 48) * 10 + (gb S 12 - 48) := by simp [pt, fb, kk]
theorem pt4 (S : ByteArray) : pt S 19 4 = (gb S 14 - 48) * 10 + (gb S 15 - 48) := by simp [pt, fb, kk]
theorem pt5 (S : ByteArray) : pt S 19 5 = (gb S 17 - 48) * 10 + (gb S 18 - 48) := by simp [pt, fb, kk]
/-- a part of the text, its rule and its number -/
theorem part (S : ByteArray) (hs : S.size = 19) (hok : ∀ j, j < 19 → ok1 S j) (a b j : Nat) (hb : b ≤ 19) (ha : a ≤ b) (hd : ∀ i, a + i < b → fb (a + i) = 48) (hn : num (S.extract a b) (b - a) = pt S 19 j) (hl : b - a ≤ 4) :
    ∃ T : ByteArray, (∀ w, (Instr.slice 9 (.string S) (some (.int .i64 (a : Int))) (some (.int .i64 (b : Int))) none).run Tryd.prog w = .ok (.string T) w) ∧ (a = 0 → ∀ w, (Instr.slice 9 (.string S) none (some (.int .i64 (b : Int))) none).run Tryd.prog w = .ok (.string T) w) ∧
      ∀ w, Calls Tryd.prog 41 #[.string T] w fun e w' => e = .returned (.int .i64 (pt S 19 j)) ∧ w = w' := by
  refine ⟨S.extract a b, ?_, ?_, ?_⟩
  · intro w
    have := run_slice_string (P := Tryd.prog) (w := w) 9 S .i64 .i64 (a : Int) (b : Int) Tryd.underlying9 (by omega) (by omega) (by omega)
    exact this
  · rintro rfl w
    have := run_slice_string_h (P := Tryd.prog) (t := 9) (s := S) (ht := Tryd.underlying9) (w := w) .i64 (b : Int) (by omega) (by omega)
    exact this
  · intro w
    have hz := cut_size S a b (by omega)
    have h1 := number_any (S.extract a b) (by omega) (fun i hi => by
      have hi2 : a + i < b := by omega
      have e := hd i hi2
      unfold dig
      rw [cut_gb S a b i (by omega) hi2]
      rcases hok (a + i) (by omega) with g | g
      · exact g.2
      · exact absurd e g.1) w
    rw [hz, hn] at h1
    exact h1
theorem parts (S : ByteArray) (hs : S.size = 19) (hok : ∀ j, j < 19 → ok1 S j) : ∃ T0 T1 T2 T3 T4 T5 : ByteArray,
    (∀ w, (Instr.slice 9 (.string S) none (some (.int .i64 4)) none).run Tryd.prog w = .ok (.string T0) w) ∧
    (∀ w, (Instr.slice 9 (.string S) (some (.int .i64 5)) (some (.int .i64 7)) none).run Tryd.prog w = .ok (.string T1) w) ∧
    (∀ w, (Instr.slice 9 (.string S) (some (.int .i64 8)) (some (.int .i64 10)) none).run Tryd.prog w = .ok (.string T2) w) ∧
    (∀ w, (Instr.slice 9 (.string S) (some (.int .i64 11)) (some (.int .i64 13)) none).run Tryd.prog w = .ok (.string T3) w) ∧
    (∀ w, (Instr.slice 9 (.string S) (some (.int .i64 14)) (some (.int .i64 16)) none).run Tryd.prog w = .ok (.string T4) w) ∧
    (∀ w, (Instr.slice 9 (.string S) (some (.int .i64 17)) (some (.int .i64 19)) none).run Tryd.prog w = .ok (.string T5) w) ∧
    (∀ w, Calls Tryd.prog 41 #[.string T0] w fun e w' => e = .returned (.int .i64 (pt S 19 0)) ∧ w = w') ∧
    (∀ w, Calls Tryd.prog 41 #[.string T1] w fun e w' => e = .returned (.int .i64 (pt S 19 1)) ∧ w = w') ∧
    (∀ w, Calls Tryd.prog 41 #[.string T2] w fun e w' => e = .returned (.int .i64 (pt S 19 2)) ∧ w = w') ∧
    (∀ w, Calls Tryd.prog 41 #[.string T3] w fun e w' => e = .returned (.int .i64 (pt S 19 3)) ∧ w = w') ∧
    (∀ w, Calls Tryd.prog 41 #[.string T4] w fun e w' => e = .returned (.int .i64 (pt S 19 4)) ∧ w = w') ∧
    (∀ w, Calls Tryd.prog 41 #[.string T5] w fun e w' => e = .returned (.int .i64 (pt S 19 5)) ∧ w = w') := by
  have hfb : ∀ a b, b < 20 → (∀ i, i < b → a + i < b → fb (a + i) = 48) → ∀ i, a + i < b → fb (a + i) = 48 := fun a b hb h i hi => h i (by omega) hi
  obtain ⟨T0, _, s0, n0⟩ := part S hs hok 0 4 0 (by omega) (by omega) (hfb 0 4 (by omega) (by decide)) (cut4 S hs) (by omega)
  obtain ⟨T1, s1, _, n1⟩ := part S hs hok 5 7 1 (by omega) (by omega) (hfb 5 7 (by omega) (by decide)) (cut2 S hs 5 7 1 (by omega) rfl (pt1 S)) (by omega)
  obtain ⟨T2, s2, _, n2⟩ := part S hs hok 8 10 2 (by omega) (by omega) (hfb 8 10 (by omega) (by decide)) (cut2 S hs 8 10 2 (by omega) rfl (pt2 S)) (by omega)
  obtain ⟨T3, s3, _, n3⟩ := part S hs hok 11 13 3 (by omega) (by omega) (hfb 11 13 (by omega) (by decide)) (cut2 S hs 11 13 3 (by omega) rfl (pt3 S)) (by omega)
  obtain ⟨T4, s4, _, n4⟩ := part S hs hok 14 16 4 (by omega) (by omega) (hfb 14 16 (by omega) (by decide)) (cut2 S hs 14 16 4 (by omega) rfl (pt4 S)) (by omega)
  obtain ⟨T5, s5, _, n5⟩ := part S hs hok 17 19 5 (by omega) (by omega) (hfb 17 19 (by omega) (by decide)) (cut2 S hs 17 19 5 (by omega) rfl (pt5 S)) (by omega)
  exact ⟨T0, T1, T2, T3, T4, T5, s0 rfl, s1, s2, s3, s4, s5, n0, n1, n2, n3, n4, n5⟩
end Go.Proofs.YtdhlgmclogdplaaDoor
