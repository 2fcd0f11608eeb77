/- The contracts of the document's number and Parse. -/
import Derived.Test.YtdhlgmclogdplaaDoorTxtD
import Derived.Test.YtdhlgmclogdplaaDoorRefD
namespace Go.Proofs.YtdhlgmclogdplaaDoor
open Go.RowKit
set_option linter.unusedVariables false
set_option linter.unusedSimpArgs false
theorem rtime_any (y m d h i s : Int) (w : World) :
    Calls Tryd.prog 33 #[.agg #[.int .i64 y, .int .i64 m, .int .i64 d, .int .i64 h, .int .i64 i, .int .i64 s]] w fun e w' => e = .returned (.tuple #[.int .i64 (Cal.timeV y m d h i s), .int .i64 (Cal.timeE y m d h i s)]) ∧ Q w w' := by
  unfold Cal.timeV Cal.timeE
  by_cases g : Cal.Good y m d h i s
  · rw [if_pos g, if_pos g]; exact rtime_good y m d h i s g w
  · rw [if_neg g, if_neg g]; exact rtime_bad y m d h i s g w
/-- the number that the first digits say -/
def num (S : ByteArray) : Nat → Int
  | 0 => 0
  | i + 1 => 10 * num S i + (gb S i - 48)
def dig (S : ByteArray) (i : Nat) : Prop := 48 ≤ gb S i ∧ gb S i ≤ 57
theorem num_bd (S : ByteArray) (i : Nat) (hi : i ≤ 4) (h : ∀ j, j < i → dig S j) : 0 ≤ num S i ∧ num S i ≤ 9999 := by
  have h0 : 0 < i → dig S 0 := fun k => h 0 (by omega)
  have h1 : 1 < i → dig S 1 := fun k => h 1 (by omega)
  have h2 : 2 < i → dig S 2 := fun k => h 2 (by omega)
  have h3 : 3 < i → dig S 3 := fun k => h 3 (by omega)
  unfold dig at *
  rcases (show i = 0 ∨ i = 1 ∨ i = 2 ∨ i = 3 ∨ i = 4 by omega) with rfl | rfl | rfl | rfl | rfl <;> simp only [num] <;> omega
theorem gx (S : ByteArray) (i : Nat) (hi : i < S.size) (w : World) : (Instr.index 9 (.string S) (.int .i64 (i : Int))).run Tryd.prog w = .ok (.int .u8 (gb S i)) w := by
  rw [run_index_string w 9 S .i64 (i : Int) Tryd.underlying9, dif_pos (by omega)]
  unfold gb
  rw [dif_pos (by omega)]
  rfl
theorem number_any (S : ByteArray) (hs : S.size ≤ 4) (h : ∀ j, j < S.size → dig S j) (w : World) :
    Calls Tryd.prog 41 #[.string S] w fun e w' => e = .returned (.int .i64 (num S S.size)) ∧ w = w' := by
  have hgi : goInt S.size = .int .i64 S.size := by simp [goInt]
  go_enter Tryd.func41, Tryd.ntmps41
  go_wp2_with fail
  go_loop [3, 4] (fun n i => ∃ k : Nat, k ≤ S.size ∧ i = .int .i64 k ∧ n = .int .i64 (num S k)) (fun _ i => S.size - (intOf i).toNat)
  case atStart => exact ⟨0, by omega, rfl, rfl⟩
  case round =>
    obtain ⟨k, hk, rfl, rfl⟩ := hrel
    by_cases hlt : k < S.size
    · have hb := num_bd S k (by omega) (fun j hj => h j (by omega))
      have hd := h k hlt
      have hd : 48 ≤ gb S k ∧ gb S k ≤ 57 := hd
      have hg := gx S k hlt
      obtain ⟨g, hgg⟩ : ∃ x, gb S k = x := ⟨_, rfl⟩
      have hn : num S (k + 1) = 10 * num S k + (gb S k - 48) := rfl
      rw [hgg] at hd hg hn
      obtain ⟨n, hnn⟩ : ∃ x, num S k = x := ⟨_, rfl⟩
      rw [hnn] at hb hn ⊢
      have r1 : IntKind.i64.wrap (10 * n) = 10 * n := by rw [IntKind.wrap_i64]; omega
      have r2 : IntKind.u8.wrap (g - 48) = g - 48 := by rw [IntKind.wrap_u8]; omega
      have r3 : IntKind.i64.wrap (g - 48) = g - 48 := by rw [IntKind.wrap_i64]; omega
      have r4 : IntKind.i64.wrap (10 * n + (g - 48)) = 10 * n + (g - 48) := by rw [IntKind.wrap_i64]; omega
      have r5 : IntKind.i64.wrap ((k : Int) + 1) = (k : Int) + 1 := by rw [IntKind.wrap_i64]; omega
      have y1 : decide ((k : Int) < (S.size : Int)) = true := by simp; omega
      go_wp2_with fail
      go_round
      case rel => exact ⟨k + 1, by omega, by go_num, by rw [hn]⟩
      case measure => simp [intOf]; omega
    · have he : k = S.size := by omega
      subst he
      have y1 : decide ((S.size : Int) < (S.size : Int)) = false := by simp
      go_wp2_with fail
      go_ret
      exact ⟨rfl, rfl⟩
end Go.Proofs.YtdhlgmclogdplaaDoor
