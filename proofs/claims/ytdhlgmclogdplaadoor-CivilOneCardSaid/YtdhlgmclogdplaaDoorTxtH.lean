/- The contracts of the document's digits and Text. -/
import Derived.Test.YtdhlgmclogdplaaDoorTxtG
namespace Go.Proofs.YtdhlgmclogdplaaDoor
open Go.RowKit
set_option linter.unusedVariables false
set_option linter.unusedSimpArgs false
theorem conv1 (w : World) (a : Int) : (convert 40 9 (.slice (some ⟨w.heap.size, 0, none⟩) 1 1)).run Tryd.prog (w.alloc (.cells #[.int .u8 a] 5)) = .ok (.string (strOfNums [a])) (w.alloc (.cells #[.int .u8 a] 5)) :=
  run_convert_bytes_arg (P := Tryd.prog) _ 40 5 Tryd.underlying40 Tryd.underlying5 w.heap.size 0 1 1 [a] rfl (by
    intro i hi
    match i, hi with
    | 0, _ => simp) 9 Tryd.underlying9
/-- the last digits of a number -/
def dgs (n : Int) : Nat → List Int
  | 0 => []
  | k + 1 => (48 + n / 10 ^ k % 10) :: dgs n k
theorem dgs_size (n : Int) (k : Nat) : (strOfNums (dgs n k)).size = k := by
  have h : (dgs n k).length = k := by
    induction k with
    | zero => rfl
    | succ k ih => simp [dgs, ih]
  show (List.toArray _).size = k
  simp [h]
theorem digits_any (n : Int) (z : Nat) (hn : 0 ≤ n ∧ n ≤ 9999) (hz : z ≤ 4) (w : World) :
    Calls Tryd.prog 40 #[.int .i64 n, .int .i64 (z : Int)] w fun e w' => e = .returned (.string (strOfNums (dgs n z))) ∧ Q w w' := by
  go_enter Tryd.func40, Tryd.ntmps40
  go_wp2_with fail
  go_loopw [0, 5, 6] (fun vn vo vi wr => ∃ k : Nat, k ≤ z ∧ vn = .int .i64 (n / 10 ^ k) ∧ vo = .string (strOfNums (dgs n k)) ∧ vi = .int .i64 (k : Int) ∧ Q w wr) (fun _ _ vi _ => z - (intOf vi).toNat)
  case atStart => exact ⟨0, by omega, by simp, rfl, rfl, Q.refl _⟩
  case round =>
    obtain ⟨k, hk, rfl, rfl, rfl, hq⟩ := hrel
    rcases Nat.lt_or_ge k z with hlt | hge
    · have hc := conv1 wr (48 + n / 10 ^ k % 10)
      have hnx : n / 10 ^ (k + 1) = n / 10 ^ k / 10 := by
        rw [Int.pow_succ, Int.ediv_ediv_of_nonneg]
        exact Int.pow_nonneg (by decide)
      have hap : strOfNums [48 + n / 10 ^ k % 10] ++ strOfNums (dgs n k) = strOfNums (dgs n (k + 1)) := by rw [str_app]; rfl
      obtain ⟨m, hm⟩ : ∃ x, n / 10 ^ k = x := ⟨_, rfl⟩
      have hm0 : 0 ≤ m ∧ m ≤ 9999 := by
        have h1 : 0 ≤ n / 10 ^ k := Int.ediv_nonneg hn.1 (Int.pow_nonneg (by decide))
        have h2 : n / 10 ^ k ≤ n := Int.ediv_le_self _ hn.1
        omega
      rw [hm] at hc hnx hap ⊢
      have z1 : (strOfNums [48 + m % 10]).size = 1 := rfl
      have z2 : (strOfNums (dgs n k)).size = k := dgs_size n k
      obtain ⟨U, hU⟩ : ∃ x, strOfNums (dgs n k) = x := ⟨_, rfl⟩
      rw [hU] at hap z2 ⊢
      have y1 : decide ((k : Int) < (z : Int)) = true := by simp; omega
      have r5 : IntKind.i64.wrap ((k : Int) + 1) = (k : Int) + 1 := by rw [IntKind.wrap_i64]; omega
      go_wp2_with fail
      go_roundw
      case rel => exact ⟨k + 1, by omega, by rw [hnx], by rw [← hap], by go_num, by repeat (first | exact Q.refl _ | assumption | refine Q.alloc ?_ _ | refine Q.drew ?_ | refine Q.drewN ?_ _ | refine Q.trans ?_ (by assumption))⟩
      case measure => simp [intOf]; omega
    · have he : k = z := by omega
      subst he
      have y1 : decide ((k : Int) < (k : Int)) = false := by simp
      go_wp2_with fail
      go_ret
      exact ⟨rfl, hq⟩
theorem digits4 (n : Int) (hn : 0 ≤ n ∧ n ≤ 9999) (w : World) :
    Calls Tryd.prog 40 #[.int .i64 n, .int .i64 4] w fun e w' => e = .returned (.string (strOfNums [48 + n / 1000, 48 + n / 100 % 10, 48 + n / 10 % 10, 48 + n % 10])) ∧ Q w w' := by
  have h := digits_any n 4 hn (by omega) w
  have e : dgs n 4 = [48 + n / 1000, 48 + n / 100 % 10, 48 + n / 10 % 10, 48 + n % 10] := by
    have h3 : n / 1000 % 10 = n / 1000 := by omega
    simp [dgs, h3]
  rw [e] at h; exact h
theorem digits2 (n : Int) (hn : 0 ≤ n ∧ n ≤ 99) (w : World) :
    Calls Tryd.prog 40 #[.int .i64 n, .int .i64 2] w fun e w' => e = .returned (.string (strOfNums [48 + n / 10, 48 + n % 10])) ∧ Q w w' := by
  have h := digits_any n 2 (by omega) (by omega) w
  have e : dgs n 2 = [48 + n / 10, 48 + n % 10] := by
    have h3 : n / 10 % 10 = n / 10 := by omega
    simp [dgs, h3]
  rw [e] at h; exact h
end Go.Proofs.YtdhlgmclogdplaaDoor
