/- The contracts of the rate limiter. -/
import Derived.Test.YtnmgcjkffeeapabGreatDoorBase
namespace Go.Proofs.YtnmgcjkffeeapabGreatDoor
open Go.RowKit
set_option linter.unusedVariables false
set_option linter.unusedSimpArgs false
/-- what a limiter knows -/
structure Li where
  s : Bool
  tat : Int
  last : Int
  T : Int
  U : Int
/-- where a limiter lies -/
def LiAt (b : Nat) (x : Li) (w : World) : Prop :=
  w.cell? ⟨b, 0, none⟩ = some (.bool x.s) ∧ w.cell? ⟨b, 1, none⟩ = some (.int .i64 x.tat) ∧ w.cell? ⟨b, 2, none⟩ = some (.int .i64 x.last) ∧ w.cell? ⟨b, 3, none⟩ = some (.int .i64 x.T) ∧ w.cell? ⟨b, 4, none⟩ = some (.int .i64 x.U) ∧ w.cell? ⟨b, 5, none⟩ = some (.bool true) ∧
  w.frozen? ⟨b, 0, none⟩ = false ∧ w.frozen? ⟨b, 1, none⟩ = false ∧ w.frozen? ⟨b, 2, none⟩ = false
theorem LiAt.lt {b : Nat} {x : Li} {w : World} (h : LiAt b x w) : b < w.heap.size := lt_of_cell h.1
theorem LiAt.mk {b : Nat} {w : World} {s : Bool} {tat last T U : Int} (h0 : w.cell? ⟨b, 0, none⟩ = some (.bool s)) (h1 : w.cell? ⟨b, 1, none⟩ = some (.int .i64 tat)) (h2 : w.cell? ⟨b, 2, none⟩ = some (.int .i64 last)) (h3 : w.cell? ⟨b, 3, none⟩ = some (.int .i64 T)) (h4 : w.cell? ⟨b, 4, none⟩ = some (.int .i64 U)) (h5 : w.cell? ⟨b, 5, none⟩ = some (.bool true))
    (f0 : w.frozen? ⟨b, 0, none⟩ = false) (f1 : w.frozen? ⟨b, 1, none⟩ = false) (f2 : w.frozen? ⟨b, 2, none⟩ = false) : LiAt b ⟨s, tat, last, T, U⟩ w := ⟨h0, h1, h2, h3, h4, h5, f0, f1, f2⟩
theorem LiAt.fr {b d : Nat} {x : Li} {w w' : World} (h : LiAt b x w) (hf : Fr d w w') (hne : b ≠ d) : LiAt b x w' := by
  have hl := h.lt
  unfold LiAt
  simp only [hf.cell hl hne, hf.frozen hl hne]
  exact h
theorem LiAt.q {b : Nat} {x : Li} {w w' : World} (h : LiAt b x w) (hq : Q w w') : LiAt b x w' := h.fr (d := w.heap.size) (Fr.ofQ hq) (by have := h.lt; omega)
/-- a launch comes too early -/
def Li.early (x : Li) (now : Int) : Bool := decide (0 < x.T) && x.s && decide (now < x.tat - x.U)
/-- a limiter within bounds -/
def Li.ok (x : Li) (n : Int) : Prop := 0 ≤ x.T ∧ x.T ≤ 68719476736 ∧ 0 ≤ x.U ∧ x.U ≤ 68719476736 ∧ 0 ≤ x.tat ∧ x.tat ≤ 1000 + n * 68719476736 ∧ 0 ≤ x.last ∧ 0 ≤ n ∧ n ≤ 100
def isT (t : Int) : Bool := decide (0 ≤ t) && decide (t ≤ 253402300799)
theorem istime_any (t : Int) (h : 0 ≤ t ∧ t ≤ 253402300799) (w : World) : Calls Tryz.prog 49 #[.int .i64 t] w fun e w' => e = .returned (.bool true) ∧ w = w' := by
  go_enter Tryz.func49, Tryz.ntmps49
  go_wp2
  go_ret
  exact ⟨rfl, rfl⟩
theorem early_any (b : Nat) (x : Li) (n now : Int) (w : World) (h : LiAt b x w) (ho : x.ok n) (hn : 0 ≤ now ∧ now ≤ 253402300799) :
    Calls Tryz.prog 50 #[.pointer (some ⟨b, 0, none⟩), .int .i64 now] w fun e w' => e = .returned (.bool (x.early now)) ∧ ∃ n, w' = w.drewN n := by
  obtain ⟨s, tat, last, T, U⟩ := x
  obtain ⟨h0, h1, h2, h3, h4, h5, f0, f1, f2⟩ := h
  obtain ⟨o1, o2, o3, o4, o5, o6, o7, o8, o9⟩ := ho
  dsimp only at h0 h1 h2 h3 h4 o1 o2 o3 o4 o5 o6 o7
  have o6' : tat ≤ 6871947674600 := by omega
  unfold Li.early
  dsimp only
  clear o6 o8 o9
  by_cases a : 0 < T
  · have y1 : decide (0 < T) = true := by simp; omega
    cases s with
    | true =>
      by_cases c : now < tat - U
      · have y2 : decide (now < tat - U) = true := by simp; omega
        rw [y1, y2]
        go_enter Tryz.func50, Tryz.ntmps50
        go_wp2_with fail
        go_quiet (fail)
        go_wp2_with fail
        go_ret
        exact ⟨rfl, ⟨_, rfl⟩⟩
      · have y2 : decide (now < tat - U) = false := by simp; omega
        rw [y1, y2]
        go_enter Tryz.func50, Tryz.ntmps50
        go_wp2_with fail
        go_quiet (fail)
        go_wp2_with fail
        go_ret
        exact ⟨rfl, ⟨_, rfl⟩⟩
    | false =>
      rw [y1]
      go_enter Tryz.func50, Tryz.ntmps50
      go_wp2_with fail
      go_quiet (fail)
      go_wp2_with fail
      go_ret
      exact ⟨rfl, ⟨_, rfl⟩⟩
  · have y1 : decide (0 < T) = false := by simp; omega
    rw [y1]
    go_enter Tryz.func50, Tryz.ntmps50
    go_wp2_with fail
    go_quiet (fail)
    go_wp2_with fail
    go_ret
    exact ⟨rfl, ⟨_, rfl⟩⟩
theorem lcheck_any (b : Nat) (x : Li) (n now : Int) (w : World) (h : LiAt b x w) (ho : x.ok n) (hn : 0 ≤ now ∧ now ≤ 253402300799) (hl : x.last ≤ now) :
    Calls Tryz.prog 26 #[.pointer (some ⟨b, 0, none⟩), .int .i64 now] w fun e w' => e = .returned (.int .i64 (if x.early now then 9 else 0)) ∧ Q w w' := by
  have ke := fun w2 h2 => early_any b x n now w2 h2 ho hn
  have kt := fun w2 => istime_any now hn w2
  have hq := h
  obtain ⟨s, tat, last, T, U⟩ := x
  generalize Li.early ⟨s, tat, last, T, U⟩ now = ee at *
  obtain ⟨h0, h1, h2, h3, h4, h5, f0, f1, f2⟩ := h
  dsimp only at h0 h1 h2 h3 h4 hl
  have HQ := Lib.hid hq
  clear hq ho
  have y3 : decide (now < last) = false := by simp; omega
  cases s <;> cases ee
  all_goals
    go_enter Tryz.func26, Tryz.ntmps26
    go_wp2_with (first
      | (go_at_call 49; refine (kt _).mono ?_; rintro e w1 ⟨rfl, rfl⟩)
      | (go_at_call 50; refine (ke _ HQ.out).mono ?_; rintro e w2 ⟨rfl, n2, rfl⟩))
    go_ret
    exact ⟨rfl, (Q.refl _).drewN _⟩
theorem lallows_any (b : Nat) (x : Li) (n now : Int) (w : World) (h : LiAt b x w) (ho : x.ok n) (hn : 0 ≤ now ∧ now ≤ 253402300799) (hl : x.last ≤ now) :
    Calls Tryz.prog 10 #[.pointer (some ⟨b, 0, none⟩), .int .i64 now] w fun e w' => e = .returned (.bool (!x.early now)) ∧ Q w w' := by
  have kc := lcheck_any b x n now w h ho hn hl
  clear h ho hl
  generalize x.early now = ee at *
  cases ee
  all_goals
    go_enter Tryz.func10, Tryz.ntmps10
    go_wp2_with (go_at_call 26; refine kc.mono ?_; rintro e w1 ⟨rfl, q1⟩)
    go_ret
    exact ⟨rfl, q1⟩
/-- a launch is counted -/
def Li.count (x : Li) (now : Int) : Li := ⟨true, max now x.tat + x.T, now, x.T, x.U⟩
set_option maxRecDepth 100000 in
theorem count_any (b : Nat) (x : Li) (n now : Int) (w : World) (h : LiAt b x w) (ho : x.ok n) (hn : 0 ≤ now ∧ now ≤ 1000) :
    Calls Tryz.prog 40 #[.pointer (some ⟨b, 0, none⟩), .int .i64 now] w fun e w' => e = .returned (.tuple #[]) ∧ LiAt b (x.count now) w' ∧ Fr b w w' := by
  have hlt := h.lt
  obtain ⟨s, tat, last, T, U⟩ := x
  obtain ⟨h0, h1, h2, h3, h4, h5, f0, f1, f2⟩ := h
  obtain ⟨o1, o2, o3, o4, o5, o6, o7, o8, o9⟩ := ho
  dsimp only at h0 h1 h2 h3 h4 o1 o2 o3 o4 o5 o6 o7
  have o6' : tat ≤ 6871947674600 := by omega
  unfold Li.count
  dsimp only
  clear o6 o8 o9
  have z1 : IntKind.i64.wrap (tat + T) = tat + T := IntWalk.i64_in _ (by omega)
  have z2 : IntKind.i64.wrap (now + T) = now + T := IntWalk.i64_in _ (by omega)
  by_cases hm : now < tat
  · have y1 : decide (now < tat) = true := by simp; omega
    have y2 : decide (tat < now) = false := by simp; omega
    have y3 : decide (tat ≤ now) = false := by simp; omega
    have y4 : decide (now ≤ tat) = true := by simp; omega
    rw [show max now tat = tat by omega]
    go_enter Tryz.func40, Tryz.ntmps40
    go_wp2_with fail
    go_still_tail 15, (by kernel_rfl)
    go_wp2_with fail
    go_end0
    refine ⟨rfl, ⟨?_, ?_, ?_, ?_, ?_, ?_, ?_, ?_, ?_⟩, (((((Fr.refl b w).setCell 1 _).setCell 2 _).setCell 0 _).drew)⟩
    all_goals go_simp
  · have y1 : decide (now < tat) = false := by simp; omega
    have y3 : decide (tat ≤ now) = true := by simp; omega
    rcases Int.lt_or_eq_of_le (show tat ≤ now by omega) with hq | hq
    · have y2 : decide (tat < now) = true := by simp; omega
      have y4 : decide (now ≤ tat) = false := by simp; omega
      rw [show max now tat = now by omega]
      go_enter Tryz.func40, Tryz.ntmps40
      go_wp2_with fail
      go_still_tail 15, (by kernel_rfl)
      go_wp2_with fail
      go_end0
      refine ⟨rfl, ⟨?_, ?_, ?_, ?_, ?_, ?_, ?_, ?_, ?_⟩, (((((Fr.refl b w).setCell 1 _).setCell 2 _).setCell 0 _).drew)⟩
      all_goals go_simp
    · subst hq
      have y2 : decide (tat < tat) = false := by simp
      have y4 : decide (tat ≤ tat) = true := by simp
      rw [show max tat tat = tat by omega]
      go_enter Tryz.func40, Tryz.ntmps40
      go_wp2_with fail
      go_still_tail 15, (by kernel_rfl)
      go_wp2_with fail
      go_end0
      refine ⟨rfl, ⟨?_, ?_, ?_, ?_, ?_, ?_, ?_, ?_, ?_⟩, (((((Fr.refl b w).setCell 1 _).setCell 2 _).setCell 0 _).drew)⟩
      all_goals go_simp
/-- a launch at a time that is not too early -/
theorem ltake_ok (b : Nat) (x : Li) (n now : Int) (w : World) (h : LiAt b x w) (ho : x.ok n) (hn : 0 ≤ now ∧ now ≤ 1000) (hl : x.last ≤ now) (he : x.early now = false) :
    Calls Tryz.prog 16 #[.pointer (some ⟨b, 0, none⟩), .int .i64 now] w fun e w' => e = .returned (.int .i64 0) ∧ LiAt b (x.count now) w' ∧ Fr b w w' := by
  have kc := lcheck_any b x n now w h ho (by omega) hl
  rw [he] at kc
  have kn := fun w2 h2 => count_any b x n now w2 h2 ho hn
  have HL := Lib.hid h
  obtain ⟨y, hy⟩ : ∃ y, x.count now = y := ⟨_, rfl⟩
  rw [hy] at kn ⊢
  clear h ho hl he hy
  go_enter Tryz.func16, Tryz.ntmps16
  go_wp2_with (first
    | (go_at_call 26; refine kc.mono ?_; rintro e w1 ⟨rfl, q1⟩)
    | (go_at_call 40; refine (kn _ (HL.out.q q1)).mono ?_; rintro e w2 ⟨rfl, h2, f2⟩))
  go_ret
  exact ⟨rfl, h2, (Fr.ofQ q1).trans f2⟩
/-- a valid limit -/
def VL (T U : Int) : Prop := (0 ≤ T ∧ T ≤ 68719476736) ∧ (0 ≤ U ∧ U ≤ 68719476736) ∧ (0 < T ∨ U = 0)
theorem vin_any (x : Int) (h : 0 ≤ x ∧ x ≤ 68719476736) (w : World) : Calls Tryz.prog 48 #[.int .i64 x] w fun e w' => e = .returned (.bool true) ∧ w = w' := by
  go_enter Tryz.func48, Tryz.ntmps48
  go_wp2
  go_ret
  exact ⟨rfl, rfl⟩
theorem lvalid_yes (T U : Int) (h : VL T U) (w : World) : Calls Tryz.prog 24 #[.agg #[.int .i64 T, .int .i64 U]] w fun e w' => e = .returned (.bool true) ∧ Q w w' := by
  obtain ⟨h1, h2, h3⟩ := h
  have k1 := fun w2 => vin_any T h1 w2
  have k2 := fun w2 => vin_any U h2 w2
  by_cases a : 0 < T
  · have y1 : decide (0 < T) = true := by simp; omega
    clear h3
    go_enter Tryz.func24, Tryz.ntmps24
    go_wp2_with (first
      | (go_at_call 48; with_reducible refine (k1 _).mono ?_; rintro e w1 ⟨rfl, rfl⟩)
      | (go_at_call 48; with_reducible refine (k2 _).mono ?_; rintro e w1 ⟨rfl, rfl⟩))
    go_ret
    exact ⟨rfl, (Q.refl _).alloc _⟩
  · have y1 : decide (0 < T) = false := by simp; omega
    obtain rfl : U = 0 := by omega
    clear h3
    go_enter Tryz.func24, Tryz.ntmps24
    go_wp2_with (first
      | (go_at_call 48; with_reducible refine (k1 _).mono ?_; rintro e w1 ⟨rfl, rfl⟩)
      | (go_at_call 48; with_reducible refine (k2 _).mono ?_; rintro e w1 ⟨rfl, rfl⟩))
    go_ret
    exact ⟨rfl, (Q.refl _).alloc _⟩
theorem lnew_ok (T U : Int) (h : VL T U) (w : World) : Calls Tryz.prog 7 #[.agg #[.int .i64 T, .int .i64 U]] w fun e w' => ∃ b, e = .returned (.tuple #[.pointer (some ⟨b, 0, none⟩), .int .i64 0]) ∧ w.heap.size ≤ b ∧ LiAt b ⟨false, 0, 0, T, U⟩ w' ∧ Q w w' := by
  have kv := fun w2 => lvalid_yes T U h w2
  clear h
  go_enter Tryz.func7, Tryz.ntmps7
  go_wp2_with (go_at_call 24; refine (kv _).mono ?_; rintro e w1 ⟨rfl, q1⟩; obtain ⟨x1, x2, x3⟩ := qcell q1)
  go_ret2
  refine ⟨_, rfl, ?_, ⟨?_, ?_, ?_, ?_, ?_, ?_, ?_, ?_, ?_⟩, (((Q.refl _).alloc _).trans q1).alloc _⟩
  · have := q1.size; simp at this; omega
  all_goals go_simp
end Go.Proofs.YtnmgcjkffeeapabGreatDoor
