/- The contracts of the heap's less and first. -/
import Derived.Test.YtnmgcjkffeeapaaDoorHeA
namespace Go.Proofs.YtnmgcjkffeeapaaDoor
open Go.RowKit
set_option linter.unusedVariables false
set_option linter.unusedSimpArgs false
theorem less_any (a b : Int) (w : World) : Calls Tryd.prog 7 #[.int .i64 a, .int .i64 b] w fun e w' => e = .returned (.bool (decide (a < b))) ∧ w = w' := by
  go_enter Tryd.func7, Tryd.ntmps7
  go_wp2_with fail
  go_ret
  exact ⟨rfl, rfl⟩
set_option maxRecDepth 100000 in
set_option maxHeartbeats 4000000 in
theorem first_raw (H g i k n cap : Nat) (a0 a1 a2 b0 b1 b2 : Int) (w : World) (r : Bool) (hr : r = decide (a1 < b1 ∨ (a1 = b1 ∧ a2 < b2)))
    (c0 : w.cell? ⟨H, 0, none⟩ = some lessV) (c1 : w.cell? ⟨H, 1, none⟩ = some (.slice (some ⟨g, 0, none⟩) n cap)) (hi : i < n) (hk : k < n) (hn : n ≤ 60)
    (i0 : w.cell? ⟨g, i * 3, none⟩ = some (.int .i64 a0)) (i1 : w.cell? ⟨g, i * 3 + 1, none⟩ = some (.int .i64 a1)) (i2 : w.cell? ⟨g, i * 3 + 2, none⟩ = some (.int .i64 a2))
    (k0 : w.cell? ⟨g, k * 3, none⟩ = some (.int .i64 b0)) (k1 : w.cell? ⟨g, k * 3 + 1, none⟩ = some (.int .i64 b1)) (k2 : w.cell? ⟨g, k * 3 + 2, none⟩ = some (.int .i64 b2)) :
    Calls Tryd.prog 31 #[.pointer (some ⟨H, 0, none⟩), .int .i64 (i : Int), .int .i64 (k : Int)] w fun e w' => e = .returned (.bool r) ∧ Q w w' := by
  have kl := fun a b w2 => less_any a b w2
  have lH := lt_of_cell c0
  have lg := lt_of_cell i0
  dsimp only at lH lg
  have n1 : w.heap.size ≠ H := by omega
  have n2 : w.heap.size ≠ g := by omega
  have n3 : w.heap.size + 1 ≠ H := by omega
  have n4 : w.heap.size + 1 ≠ g := by omega
  have y1 : (0 : Int) ≤ (i : Int) ∧ (i : Int) < (n : Int) := by omega
  have y2 : (0 : Int) ≤ (k : Int) ∧ (k : Int) < (n : Int) := by omega
  have y3 : (n : Int) ≤ 60 := by omega
  unfold lessV at c0
  have HR := Lib.hid hr
  clear hr
  by_cases h1 : a1 < b1
  · have h2 : ¬ b1 < a1 := by omega
    have z1 : decide (a1 < b1) = true := by simp; omega
    go_enter Tryd.func31, Tryd.ntmps31
    go_wp2_with fail
    go_region_held3 (fun w' => w'.cell? ⟨H, 0, none⟩ = some (.func (.func 7) #[] #[]) ∧ w'.cell? ⟨H, 1, none⟩ = some (.slice (some ⟨g, 0, none⟩) n cap) ∧ w'.cell? ⟨g, i * 3, none⟩ = some (.int .i64 a0) ∧ w'.cell? ⟨g, i * 3 + 1, none⟩ = some (.int .i64 a1) ∧ w'.cell? ⟨g, i * 3 + 2, none⟩ = some (.int .i64 a2) ∧ w'.cell? ⟨g, k * 3, none⟩ = some (.int .i64 b0) ∧ w'.cell? ⟨g, k * 3 + 1, none⟩ = some (.int .i64 b1) ∧ w'.cell? ⟨g, k * 3 + 2, none⟩ = some (.int .i64 b2)) (go_keep) (fail)
    all_goals
      go_wp2_with fail
      (first | go_region_held3 (fun w' => w'.cell? ⟨H, 0, none⟩ = some (.func (.func 7) #[] #[]) ∧ w'.cell? ⟨w.heap.size, 1, none⟩ = some (.int .i64 a1) ∧ w'.cell? ⟨w.heap.size + 1, 1, none⟩ = some (.int .i64 b1)) (go_keep) ((go_at_call 7; (with_reducible refine (kl _ _ _).mono ?_); rintro e w1 ⟨rfl, rfl⟩)) | go_region_held3 (fun w' => w'.cell? ⟨H, 0, none⟩ = some (.func (.func 7) #[] #[]) ∧ w'.cell? ⟨w.heap.size + 1, 1, none⟩ = some (.int .i64 a1) ∧ w'.cell? ⟨w.heap.size, 1, none⟩ = some (.int .i64 b1)) (go_keep) ((go_at_call 7; (with_reducible refine (kl _ _ _).mono ?_); rintro e w1 ⟨rfl, rfl⟩)))
      go_wp2_with fail
      go_ret
      exact ⟨ret_bool (by rw [HR.out]; simp <;> omega), by repeat (first | exact Q.refl _ | refine Q.drewN ?_ _ | refine Q.drew ?_ | refine Q.alloc ?_ _)⟩
  · by_cases h2 : b1 < a1
    · have z1 : decide (a1 < b1) = false := by simp; omega
      have z2 : decide (b1 < a1) = true := by simp; omega
      go_enter Tryd.func31, Tryd.ntmps31
      go_wp2_with fail
      go_region_held3 (fun w' => w'.cell? ⟨H, 0, none⟩ = some (.func (.func 7) #[] #[]) ∧ w'.cell? ⟨H, 1, none⟩ = some (.slice (some ⟨g, 0, none⟩) n cap) ∧ w'.cell? ⟨g, i * 3, none⟩ = some (.int .i64 a0) ∧ w'.cell? ⟨g, i * 3 + 1, none⟩ = some (.int .i64 a1) ∧ w'.cell? ⟨g, i * 3 + 2, none⟩ = some (.int .i64 a2) ∧ w'.cell? ⟨g, k * 3, none⟩ = some (.int .i64 b0) ∧ w'.cell? ⟨g, k * 3 + 1, none⟩ = some (.int .i64 b1) ∧ w'.cell? ⟨g, k * 3 + 2, none⟩ = some (.int .i64 b2)) (go_keep) (fail)
      all_goals
        go_wp2_with fail
        (first | go_region_held3 (fun w' => w'.cell? ⟨H, 0, none⟩ = some (.func (.func 7) #[] #[]) ∧ w'.cell? ⟨w.heap.size, 1, none⟩ = some (.int .i64 a1) ∧ w'.cell? ⟨w.heap.size + 1, 1, none⟩ = some (.int .i64 b1)) (go_keep) ((go_at_call 7; (with_reducible refine (kl _ _ _).mono ?_); rintro e w1 ⟨rfl, rfl⟩)) | go_region_held3 (fun w' => w'.cell? ⟨H, 0, none⟩ = some (.func (.func 7) #[] #[]) ∧ w'.cell? ⟨w.heap.size + 1, 1, none⟩ = some (.int .i64 a1) ∧ w'.cell? ⟨w.heap.size, 1, none⟩ = some (.int .i64 b1)) (go_keep) ((go_at_call 7; (with_reducible refine (kl _ _ _).mono ?_); rintro e w1 ⟨rfl, rfl⟩)))
        go_wp2_with fail
        (first | go_region_held3 (fun w' => w'.cell? ⟨H, 0, none⟩ = some (.func (.func 7) #[] #[]) ∧ w'.cell? ⟨w.heap.size, 1, none⟩ = some (.int .i64 a1) ∧ w'.cell? ⟨w.heap.size + 1, 1, none⟩ = some (.int .i64 b1)) (go_keep) ((go_at_call 7; (with_reducible refine (kl _ _ _).mono ?_); rintro e w1 ⟨rfl, rfl⟩)) | go_region_held3 (fun w' => w'.cell? ⟨H, 0, none⟩ = some (.func (.func 7) #[] #[]) ∧ w'.cell? ⟨w.heap.size + 1, 1, none⟩ = some (.int .i64 a1) ∧ w'.cell? ⟨w.heap.size, 1, none⟩ = some (.int .i64 b1)) (go_keep) ((go_at_call 7; (with_reducible refine (kl _ _ _).mono ?_); rintro e w1 ⟨rfl, rfl⟩)))
        go_wp2_with fail
        go_ret
        exact ⟨ret_bool (by rw [HR.out]; simp <;> omega), by repeat (first | exact Q.refl _ | refine Q.drewN ?_ _ | refine Q.drew ?_ | refine Q.alloc ?_ _)⟩
    · have z1 : decide (a1 < b1) = false := by simp; omega
      have z2 : decide (b1 < a1) = false := by simp; omega
      have HE := Lib.hid (show (a1 < b1 ∨ (a1 = b1 ∧ a2 < b2)) = (a2 < b2) from propext ⟨by omega, by omega⟩)
      go_enter Tryd.func31, Tryd.ntmps31
      go_wp2_with fail
      go_region_held3 (fun w' => w'.cell? ⟨H, 0, none⟩ = some (.func (.func 7) #[] #[]) ∧ w'.cell? ⟨H, 1, none⟩ = some (.slice (some ⟨g, 0, none⟩) n cap) ∧ w'.cell? ⟨g, i * 3, none⟩ = some (.int .i64 a0) ∧ w'.cell? ⟨g, i * 3 + 1, none⟩ = some (.int .i64 a1) ∧ w'.cell? ⟨g, i * 3 + 2, none⟩ = some (.int .i64 a2) ∧ w'.cell? ⟨g, k * 3, none⟩ = some (.int .i64 b0) ∧ w'.cell? ⟨g, k * 3 + 1, none⟩ = some (.int .i64 b1) ∧ w'.cell? ⟨g, k * 3 + 2, none⟩ = some (.int .i64 b2)) (go_keep) (fail)
      all_goals
        go_wp2_with fail
        (first | go_region_held3 (fun w' => w'.cell? ⟨H, 0, none⟩ = some (.func (.func 7) #[] #[]) ∧ w'.cell? ⟨w.heap.size, 1, none⟩ = some (.int .i64 a1) ∧ w'.cell? ⟨w.heap.size + 1, 1, none⟩ = some (.int .i64 b1)) (go_keep) ((go_at_call 7; (with_reducible refine (kl _ _ _).mono ?_); rintro e w1 ⟨rfl, rfl⟩)) | go_region_held3 (fun w' => w'.cell? ⟨H, 0, none⟩ = some (.func (.func 7) #[] #[]) ∧ w'.cell? ⟨w.heap.size + 1, 1, none⟩ = some (.int .i64 a1) ∧ w'.cell? ⟨w.heap.size, 1, none⟩ = some (.int .i64 b1)) (go_keep) ((go_at_call 7; (with_reducible refine (kl _ _ _).mono ?_); rintro e w1 ⟨rfl, rfl⟩)))
        go_wp2_with fail
        (first | go_region_held3 (fun w' => w'.cell? ⟨H, 0, none⟩ = some (.func (.func 7) #[] #[]) ∧ w'.cell? ⟨w.heap.size, 1, none⟩ = some (.int .i64 a1) ∧ w'.cell? ⟨w.heap.size + 1, 1, none⟩ = some (.int .i64 b1)) (go_keep) ((go_at_call 7; (with_reducible refine (kl _ _ _).mono ?_); rintro e w1 ⟨rfl, rfl⟩)) | go_region_held3 (fun w' => w'.cell? ⟨H, 0, none⟩ = some (.func (.func 7) #[] #[]) ∧ w'.cell? ⟨w.heap.size + 1, 1, none⟩ = some (.int .i64 a1) ∧ w'.cell? ⟨w.heap.size, 1, none⟩ = some (.int .i64 b1)) (go_keep) ((go_at_call 7; (with_reducible refine (kl _ _ _).mono ?_); rintro e w1 ⟨rfl, rfl⟩)))
        go_wp2_with fail
        go_ret
        exact ⟨ret_bool (by rw [HR.out]; simp only [HE.out]), by repeat (first | exact Q.refl _ | refine Q.drewN ?_ _ | refine Q.drew ?_ | refine Q.alloc ?_ _)⟩
/-- whether one entry comes before another one -/
theorem first_ok {F : Nat → Prop} {H M : Nat} {v : Value} {l : List En} {ps B : Int} {w : World} (h : HeAt F H M v l ps B w) (i k : Nat) (hi : i < l.length) (hk : k < l.length) (hl : l.length ≤ 60) (r : Bool) (hr : r = true ↔ Hep.lt (Hep.g l i) (Hep.g l k)) :
    Calls Tryd.prog 31 #[.pointer (some ⟨H, 0, none⟩), .int .i64 (i : Int), .int .i64 (k : Int)] w fun e w' => e = .returned (.bool r) ∧ Q w w' := by
  obtain ⟨g, cap, rfl⟩ := h.slice (by omega)
  obtain ⟨i0, i1, i2, _⟩ := row_cell h.row hi
  obtain ⟨k0, k1, k2, _⟩ := row_cell h.row hk
  exact first_raw H g i k l.length cap _ _ _ _ _ _ w r (Bool.eq_iff_iff.2 (by rw [decide_eq_true_iff]; exact hr)) h.c0 h.c1 hi hk hl i0 i1 i2 k0 k1 k2
theorem first_t {F : Nat → Prop} {H M : Nat} {v : Value} {l : List En} {ps B : Int} {w : World} (h : HeAt F H M v l ps B w) (i k : Nat) (hi : i < l.length) (hk : k < l.length) (hl : l.length ≤ 60) (hr : Hep.lt (Hep.g l i) (Hep.g l k)) :
    Calls Tryd.prog 31 #[.pointer (some ⟨H, 0, none⟩), .int .i64 (i : Int), .int .i64 (k : Int)] w fun e w' => e = .returned (.bool true) ∧ Q w w' :=
  first_ok h i k hi hk hl true ⟨fun _ => hr, fun _ => rfl⟩
theorem first_f {F : Nat → Prop} {H M : Nat} {v : Value} {l : List En} {ps B : Int} {w : World} (h : HeAt F H M v l ps B w) (i k : Nat) (hi : i < l.length) (hk : k < l.length) (hl : l.length ≤ 60) (hr : ¬ Hep.lt (Hep.g l i) (Hep.g l k)) :
    Calls Tryd.prog 31 #[.pointer (some ⟨H, 0, none⟩), .int .i64 (i : Int), .int .i64 (k : Int)] w fun e w' => e = .returned (.bool false) ∧ Q w w' :=
  first_ok h i k hi hk hl false ⟨fun q => absurd q Bool.false_ne_true, fun q => absurd q hr⟩
end Go.Proofs.YtnmgcjkffeeapaaDoor
