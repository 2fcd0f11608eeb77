/- The walks of the laws EverySums and EveryEnds. -/
import Derived.Test.YtfhplhfgcanfbaaEvW
import Derived.Test.YtfhplhfgcanfbaaLawp
namespace Go.Proofs.Ytfhplhfgcanfbaa
open Go.RowKit
set_option linter.unusedVariables false
set_option linter.unusedSimpArgs false
theorem tm_ok (t : Int) (h : Ev.TOk t) (w : World) : Calls Try.prog 20 #[.int .i64 t] w fun e w' => e = .returned (.bool true) ∧ w = w' := by
  obtain ⟨h1, h2⟩ := h
  go_enter Try.func20, Try.ntmps20
  go_wp2
  go_ret
  exact ⟨rfl, rfl⟩
theorem tm_no (t : Int) (h : ¬ Ev.TOk t) (w : World) : Calls Try.prog 20 #[.int .i64 t] w fun e w' => e = .returned (.bool false) ∧ w = w' := by
  unfold Ev.TOk at h
  by_cases h1 : t < 0
  · clear h
    go_enter Try.func20, Try.ntmps20
    go_wp2
    go_ret
    exact ⟨rfl, rfl⟩
  · have h2 : decide (t ≤ 253402300799) = false := decide_eq_false (by omega)
    clear h
    go_enter Try.func20, Try.ntmps20
    go_wp2
    go_ret
    exact ⟨rfl, rfl⟩
set_option maxHeartbeats 4000000 in
theorem everySums_walk (s p c a b d : Int) (ws : (Lit.int .i64 s).wf = true) (wp : (Lit.int .i64 p).wf = true) (wc : (Lit.int .i64 c).wf = true) (wa : (Lit.int .i64 a).wf = true) (wb : (Lit.int .i64 b).wf = true) (wd : (Lit.int .i64 d).wf = true) (w : World) :
    Calls Try.prog 5 #[.agg #[.int .i64 s, .int .i64 p, .int .i64 c], .int .i64 a, .int .i64 b, .int .i64 d] w fun e w' => e = .returned (.bool true) ∧ Q w w' := by
  clear ws wp wc wa wb wd
  by_cases h : Ev.Ok s p c
  · have k0 := fun w2 => check_ok s p c h w2
    by_cases ha : Ev.TOk a
    · have ka := fun w2 => tm_ok a ha w2
      by_cases hb : Ev.TOk b
      · have kb := fun w2 => tm_ok b hb w2
        by_cases hd : Ev.TOk d
        · have kd := fun w2 => tm_ok d hd w2
          by_cases hab : a ≤ b
          · by_cases hbd : b < d
            · have a1 := ha
              have b1 := hb
              have d1 := hd
              unfold Ev.TOk at a1 b1 d1
              have hb1 : Ev.TOk (b + 1) := by unfold Ev.TOk; omega
              have k1 := fun w2 => count_ok s p c a b h ha hb w2
              have k2 := fun w2 => count_ok s p c (b + 1) d h hb1 hd w2
              have k3 := fun w2 => count_ok s p c a d h ha hd w2
              have k4 := fun w2 => count_ok s p c b b h hb hb w2
              have k5 := fun w2 => is_ok s p c b h hb w2
              obtain ⟨A, hA⟩ : ∃ A, Ev.cntV s p c a b = A := ⟨_, rfl⟩
              obtain ⟨B, hB⟩ : ∃ B, Ev.cntV s p c (b + 1) d = B := ⟨_, rfl⟩
              obtain ⟨C, hC⟩ : ∃ C, Ev.cntV s p c a d = C := ⟨_, rfl⟩
              obtain ⟨O, hO⟩ : ∃ O, Ev.cntV s p c b b = O := ⟨_, rfl⟩
              rw [hA] at k1
              rw [hB] at k2
              rw [hC] at k3
              rw [hO] at k4
              have bd1 := Ev.bef_le h a
              have bd2 := Ev.bef_le h (b + 1)
              have bd3 := Ev.bef_le h (d + 1)
              have bd4 := Ev.num_max h
              have m1 := Ev.bef_mono h (show a ≤ b + 1 by omega)
              have m2 := Ev.bef_mono h (show b + 1 ≤ d + 1 by omega)
              unfold Ev.cntV at hA hB hC hO
              rw [if_pos hab] at hA
              rw [if_pos (by omega)] at hB
              rw [if_pos (by omega)] at hC
              rw [if_pos (Int.le_refl _)] at hO
              have hs : A + B = C := by omega
              have A0 : 0 ≤ A ∧ A ≤ 253402300800 := by omega
              have B0 : 0 ≤ B ∧ B ≤ 253402300800 := by omega
              have hnd : b ≠ d := by omega
              rcases Ev.is01 h b with ⟨i, j⟩ | ⟨i, j⟩
              · obtain rfl : O = 1 := by omega
                rw [i] at k5
                clear i j hA hB hC hO m1 m2 bd1 bd2 bd3 bd4 h ha hb hd hb1
                go_enter Try.func5, Try.ntmps5
                go_wp2_with (first
                  | (go_at_call 20; with_reducible refine (ka _).mono ?_; rintro e w11 ⟨rfl, rfl⟩)
                  | (go_at_call 20; with_reducible refine (kb _).mono ?_; rintro e w12 ⟨rfl, rfl⟩)
                  | (go_at_call 20; with_reducible refine (kd _).mono ?_; rintro e w13 ⟨rfl, rfl⟩)
                  | (go_at_call 19; with_reducible refine (k0 _).mono ?_; rintro e w0 ⟨rfl, hq0⟩; obtain ⟨x10, x20, x30⟩ := qcell hq0; have hz0 : w.heap.size < w0.heap.size := (by have := hq0.size; (try simp at this); omega))
                  | (go_at_call 14; with_reducible refine (k1 _).mono ?_; rintro e w1 ⟨rfl, hq1⟩; obtain ⟨x11, x21, x31⟩ := qcell hq1; have hz1 : w.heap.size < w1.heap.size := (by have := hq1.size; (try simp at this); omega))
                  | (go_at_call 14; with_reducible refine (k2 _).mono ?_; rintro e w2 ⟨rfl, hq2⟩; obtain ⟨x12, x22, x32⟩ := qcell hq2; have hz2 : w.heap.size < w2.heap.size := (by have := hq2.size; (try simp at this); omega))
                  | (go_at_call 14; with_reducible refine (k3 _).mono ?_; rintro e w3 ⟨rfl, hq3⟩; obtain ⟨x13, x23, x33⟩ := qcell hq3; have hz3 : w.heap.size < w3.heap.size := (by have := hq3.size; (try simp at this); omega))
                  | (go_at_call 14; with_reducible refine (k4 _).mono ?_; rintro e w4 ⟨rfl, hq4⟩; obtain ⟨x14, x24, x34⟩ := qcell hq4; have hz4 : w.heap.size < w4.heap.size := (by have := hq4.size; (try simp at this); omega))
                  | (go_at_call 21; with_reducible refine (k5 _).mono ?_; rintro e w5 ⟨rfl, hq5⟩; obtain ⟨x15, x25, x35⟩ := qcell hq5; have hz5 : w.heap.size < w5.heap.size := (by have := hq5.size; (try simp at this); omega))
                  | (go_at_call 16; refine (works_any _).mono ?_; rintro e w99 ⟨rfl, hq99⟩))
                go_ret
                exact ⟨rfl, by repeat (first | exact Q.refl _ | assumption | refine Q.alloc ?_ _ | refine Q.drew ?_ | refine Q.drewN ?_ _ | refine Q.setCell ?_ (by first | exact Nat.le_refl _ | (simp; done) | (simp at *; omega)) _ | refine Q.trans ?_ (by assumption))⟩
              · obtain rfl : O = 0 := by omega
                rw [i] at k5
                clear i j hA hB hC hO m1 m2 bd1 bd2 bd3 bd4 h ha hb hd hb1
                go_enter Try.func5, Try.ntmps5
                go_wp2_with (first
                  | (go_at_call 20; with_reducible refine (ka _).mono ?_; rintro e w11 ⟨rfl, rfl⟩)
                  | (go_at_call 20; with_reducible refine (kb _).mono ?_; rintro e w12 ⟨rfl, rfl⟩)
                  | (go_at_call 20; with_reducible refine (kd _).mono ?_; rintro e w13 ⟨rfl, rfl⟩)
                  | (go_at_call 19; with_reducible refine (k0 _).mono ?_; rintro e w0 ⟨rfl, hq0⟩; obtain ⟨x10, x20, x30⟩ := qcell hq0; have hz0 : w.heap.size < w0.heap.size := (by have := hq0.size; (try simp at this); omega))
                  | (go_at_call 14; with_reducible refine (k1 _).mono ?_; rintro e w1 ⟨rfl, hq1⟩; obtain ⟨x11, x21, x31⟩ := qcell hq1; have hz1 : w.heap.size < w1.heap.size := (by have := hq1.size; (try simp at this); omega))
                  | (go_at_call 14; with_reducible refine (k2 _).mono ?_; rintro e w2 ⟨rfl, hq2⟩; obtain ⟨x12, x22, x32⟩ := qcell hq2; have hz2 : w.heap.size < w2.heap.size := (by have := hq2.size; (try simp at this); omega))
                  | (go_at_call 14; with_reducible refine (k3 _).mono ?_; rintro e w3 ⟨rfl, hq3⟩; obtain ⟨x13, x23, x33⟩ := qcell hq3; have hz3 : w.heap.size < w3.heap.size := (by have := hq3.size; (try simp at this); omega))
                  | (go_at_call 14; with_reducible refine (k4 _).mono ?_; rintro e w4 ⟨rfl, hq4⟩; obtain ⟨x14, x24, x34⟩ := qcell hq4; have hz4 : w.heap.size < w4.heap.size := (by have := hq4.size; (try simp at this); omega))
                  | (go_at_call 21; with_reducible refine (k5 _).mono ?_; rintro e w5 ⟨rfl, hq5⟩; obtain ⟨x15, x25, x35⟩ := qcell hq5; have hz5 : w.heap.size < w5.heap.size := (by have := hq5.size; (try simp at this); omega))
                  | (go_at_call 16; refine (works_any _).mono ?_; rintro e w99 ⟨rfl, hq99⟩))
                go_ret
                exact ⟨rfl, by repeat (first | exact Q.refl _ | assumption | refine Q.alloc ?_ _ | refine Q.drew ?_ | refine Q.drewN ?_ _ | refine Q.setCell ?_ (by first | exact Nat.le_refl _ | (simp; done) | (simp at *; omega)) _ | refine Q.trans ?_ (by assumption))⟩
            · clear h ha hb hd
              go_enter Try.func5, Try.ntmps5
              go_wp2_with (first
                | (go_at_call 20; with_reducible refine (ka _).mono ?_; rintro e w11 ⟨rfl, rfl⟩)
                | (go_at_call 20; with_reducible refine (kb _).mono ?_; rintro e w12 ⟨rfl, rfl⟩)
                | (go_at_call 20; with_reducible refine (kd _).mono ?_; rintro e w13 ⟨rfl, rfl⟩)
                | (go_at_call 19; with_reducible refine (k0 _).mono ?_; rintro e w0 ⟨rfl, hq0⟩; obtain ⟨x10, x20, x30⟩ := qcell hq0; have hz0 : w.heap.size < w0.heap.size := (by have := hq0.size; (try simp at this); omega))
                | (go_at_call 16; refine (works_any _).mono ?_; rintro e w99 ⟨rfl, hq99⟩))
              go_ret
              exact ⟨rfl, by repeat (first | exact Q.refl _ | assumption | refine Q.alloc ?_ _ | refine Q.drew ?_ | refine Q.drewN ?_ _ | refine Q.setCell ?_ (by first | exact Nat.le_refl _ | (simp; done) | (simp at *; omega)) _ | refine Q.trans ?_ (by assumption))⟩
          · clear h ha hb hd
            go_enter Try.func5, Try.ntmps5
            go_wp2_with (first
              | (go_at_call 20; with_reducible refine (ka _).mono ?_; rintro e w11 ⟨rfl, rfl⟩)
              | (go_at_call 20; with_reducible refine (kb _).mono ?_; rintro e w12 ⟨rfl, rfl⟩)
              | (go_at_call 20; with_reducible refine (kd _).mono ?_; rintro e w13 ⟨rfl, rfl⟩)
              | (go_at_call 19; with_reducible refine (k0 _).mono ?_; rintro e w0 ⟨rfl, hq0⟩; obtain ⟨x10, x20, x30⟩ := qcell hq0; have hz0 : w.heap.size < w0.heap.size := (by have := hq0.size; (try simp at this); omega))
              | (go_at_call 16; refine (works_any _).mono ?_; rintro e w99 ⟨rfl, hq99⟩))
            go_ret
            exact ⟨rfl, by repeat (first | exact Q.refl _ | assumption | refine Q.alloc ?_ _ | refine Q.drew ?_ | refine Q.drewN ?_ _ | refine Q.setCell ?_ (by first | exact Nat.le_refl _ | (simp; done) | (simp at *; omega)) _ | refine Q.trans ?_ (by assumption))⟩
        · have kd := fun w2 => tm_no d hd w2
          clear h ha hb hd
          go_enter Try.func5, Try.ntmps5
          go_wp2_with (first
            | (go_at_call 20; with_reducible refine (ka _).mono ?_; rintro e w11 ⟨rfl, rfl⟩)
            | (go_at_call 20; with_reducible refine (kb _).mono ?_; rintro e w12 ⟨rfl, rfl⟩)
            | (go_at_call 20; with_reducible refine (kd _).mono ?_; rintro e w13 ⟨rfl, rfl⟩)
            | (go_at_call 19; with_reducible refine (k0 _).mono ?_; rintro e w0 ⟨rfl, hq0⟩; obtain ⟨x10, x20, x30⟩ := qcell hq0; have hz0 : w.heap.size < w0.heap.size := (by have := hq0.size; (try simp at this); omega))
            | (go_at_call 16; refine (works_any _).mono ?_; rintro e w99 ⟨rfl, hq99⟩))
          go_ret
          exact ⟨rfl, by repeat (first | exact Q.refl _ | assumption | refine Q.alloc ?_ _ | refine Q.drew ?_ | refine Q.drewN ?_ _ | refine Q.setCell ?_ (by first | exact Nat.le_refl _ | (simp; done) | (simp at *; omega)) _ | refine Q.trans ?_ (by assumption))⟩
      · have kb := fun w2 => tm_no b hb w2
        clear h ha hb
        go_enter Try.func5, Try.ntmps5
        go_wp2_with (first
          | (go_at_call 20; with_reducible refine (ka _).mono ?_; rintro e w11 ⟨rfl, rfl⟩)
          | (go_at_call 20; with_reducible refine (kb _).mono ?_; rintro e w12 ⟨rfl, rfl⟩)
          | (go_at_call 19; with_reducible refine (k0 _).mono ?_; rintro e w0 ⟨rfl, hq0⟩; obtain ⟨x10, x20, x30⟩ := qcell hq0; have hz0 : w.heap.size < w0.heap.size := (by have := hq0.size; (try simp at this); omega))
          | (go_at_call 16; refine (works_any _).mono ?_; rintro e w99 ⟨rfl, hq99⟩))
        go_ret
        exact ⟨rfl, by repeat (first | exact Q.refl _ | assumption | refine Q.alloc ?_ _ | refine Q.drew ?_ | refine Q.drewN ?_ _ | refine Q.setCell ?_ (by first | exact Nat.le_refl _ | (simp; done) | (simp at *; omega)) _ | refine Q.trans ?_ (by assumption))⟩
    · have ka := fun w2 => tm_no a ha w2
      clear h ha
      go_enter Try.func5, Try.ntmps5
      go_wp2_with (first
        | (go_at_call 20; with_reducible refine (ka _).mono ?_; rintro e w11 ⟨rfl, rfl⟩)
        | (go_at_call 19; with_reducible refine (k0 _).mono ?_; rintro e w0 ⟨rfl, hq0⟩; obtain ⟨x10, x20, x30⟩ := qcell hq0; have hz0 : w.heap.size < w0.heap.size := (by have := hq0.size; (try simp at this); omega))
        | (go_at_call 16; refine (works_any _).mono ?_; rintro e w99 ⟨rfl, hq99⟩))
      go_ret
      exact ⟨rfl, by repeat (first | exact Q.refl _ | assumption | refine Q.alloc ?_ _ | refine Q.drew ?_ | refine Q.drewN ?_ _ | refine Q.setCell ?_ (by first | exact Nat.le_refl _ | (simp; done) | (simp at *; omega)) _ | refine Q.trans ?_ (by assumption))⟩
  · have k0 := fun w2 => check_bad s p c h w2
    clear h
    go_enter Try.func5, Try.ntmps5
    go_wp2_with (first
      | (go_at_call 19; with_reducible refine (k0 _).mono ?_; rintro e w0 ⟨rfl, hq0⟩; obtain ⟨x10, x20, x30⟩ := qcell hq0; have hz0 : w.heap.size < w0.heap.size := (by have := hq0.size; (try simp at this); omega))
      | (go_at_call 16; refine (works_any _).mono ?_; rintro e w99 ⟨rfl, hq99⟩))
    go_ret
    exact ⟨rfl, by repeat (first | exact Q.refl _ | assumption | refine Q.alloc ?_ _ | refine Q.drew ?_ | refine Q.drewN ?_ _ | refine Q.setCell ?_ (by first | exact Nat.le_refl _ | (simp; done) | (simp at *; omega)) _ | refine Q.trans ?_ (by assumption))⟩
set_option maxHeartbeats 4000000 in
theorem everyEnds_walk (s p c : Int) (ws : (Lit.int .i64 s).wf = true) (wp : (Lit.int .i64 p).wf = true) (wc : (Lit.int .i64 c).wf = true) (w : World) :
    Calls Try.prog 6 #[.agg #[.int .i64 s, .int .i64 p, .int .i64 c]] w fun e w' => e = .returned (.bool true) ∧ Q w w' := by
  clear ws wp wc
  by_cases h : Ev.Ok s p c
  · have k0 := fun w2 => check_ok s p c h w2
    have k1 := fun w2 => last_ok s p c h w2
    have hl := Ev.last_tok h
    have hi := Ev.last_is h
    have n1 := Ev.num_pos h
    have n2 := Ev.num_max h
    have k2 := fun w2 => is_ok s p c _ h hl w2
    have k3 := fun w2 => next_ok s p c _ h hl w2
    have k4 := fun w2 => count_ok s p c 0 253402300799 h (by decide) (by decide) w2
    have k5 := fun w2 => index_in s p c _ h hl hi w2
    rw [hi] at k2
    have e1 : Ev.bef s p c (s + (Ev.num s p c - 1) * p + 1) = Ev.num s p c := by rw [Ev.bef_tm1 h (by omega) (by omega)]; omega
    have e2 : Ev.bef s p c (s + (Ev.num s p c - 1) * p) = Ev.num s p c - 1 := Ev.bef_tm h (by omega) (by omega)
    have e3 : Ev.nxtB s p c (s + (Ev.num s p c - 1) * p) = false := by unfold Ev.nxtB; rw [e1]; exact decide_eq_false (by omega)
    have e4 : Ev.nxtV s p c (s + (Ev.num s p c - 1) * p) = 0 := by unfold Ev.nxtV; rw [e1]; exact if_neg (by omega)
    have e5 : Ev.cntV s p c 0 253402300799 = Ev.num s p c := by
      unfold Ev.cntV
      rw [if_pos (by decide), Ev.bef_all h (by decide), Ev.bef_none h.1]; omega
    rw [e3, e4] at k3
    rw [e5] at k4
    rw [e2] at k5
    have far := @Ev.last_far s p c h
    have cnt := @Ev.num_count s p c h
    obtain ⟨L, hL⟩ : ∃ L, s + (Ev.num s p c - 1) * p = L := ⟨_, rfl⟩
    rw [hL] at k1 k2 k3 k5 far
    obtain ⟨n, hn⟩ : ∃ n, Ev.num s p c = n := ⟨_, rfl⟩
    rw [hn] at k4 k5 n1 n2 far cnt
    have b1 := h.2.2.1
    have b2 := h.2.2.2.1
    have b3 := h.2.2.2.2.1
    clear e1 e2 e3 e4 e5 hi hl hL hn h
    rcases (show c = 0 ∨ (0 < c ∧ n < c) ∨ (0 < c ∧ n = c) by have := cnt; omega) with rfl | ⟨c1, c2⟩ | ⟨c1, rfl⟩
    · have hf := far (Or.inl rfl)
      clear far cnt
      go_enter Try.func6, Try.ntmps6
      go_wp2_with (first
        | (go_at_call 19; with_reducible refine (k0 _).mono ?_; rintro e w0 ⟨rfl, hq0⟩; obtain ⟨x10, x20, x30⟩ := qcell hq0; have hz0 : w.heap.size < w0.heap.size := (by have := hq0.size; (try simp at this); omega))
        | (go_at_call 22; with_reducible refine (k1 _).mono ?_; rintro e w1 ⟨rfl, hq1⟩; obtain ⟨x11, x21, x31⟩ := qcell hq1; have hz1 : w.heap.size < w1.heap.size := (by have := hq1.size; (try simp at this); omega))
        | (go_at_call 21; with_reducible refine (k2 _).mono ?_; rintro e w2 ⟨rfl, hq2⟩; obtain ⟨x12, x22, x32⟩ := qcell hq2; have hz2 : w.heap.size < w2.heap.size := (by have := hq2.size; (try simp at this); omega))
        | (go_at_call 23; with_reducible refine (k3 _).mono ?_; rintro e w3 ⟨rfl, hq3⟩; obtain ⟨x13, x23, x33⟩ := qcell hq3; have hz3 : w.heap.size < w3.heap.size := (by have := hq3.size; (try simp at this); omega))
        | (go_at_call 14; with_reducible refine (k4 _).mono ?_; rintro e w4 ⟨rfl, hq4⟩; obtain ⟨x14, x24, x34⟩ := qcell hq4; have hz4 : w.heap.size < w4.heap.size := (by have := hq4.size; (try simp at this); omega))
        | (go_at_call 24; with_reducible refine (k5 _).mono ?_; rintro e w5 ⟨rfl, hq5⟩; obtain ⟨x15, x25, x35⟩ := qcell hq5; have hz5 : w.heap.size < w5.heap.size := (by have := hq5.size; (try simp at this); omega))
        | (go_at_call 16; refine (works_any _).mono ?_; rintro e w99 ⟨rfl, hq99⟩))
      go_ret
      exact ⟨rfl, by repeat (first | exact Q.refl _ | assumption | refine Q.alloc ?_ _ | refine Q.drew ?_ | refine Q.drewN ?_ _ | refine Q.setCell ?_ (by first | exact Nat.le_refl _ | (simp; done) | (simp at *; omega)) _ | refine Q.trans ?_ (by assumption))⟩
    · have hf := far (Or.inr c2)
      clear far cnt
      go_enter Try.func6, Try.ntmps6
      go_wp2_with (first
        | (go_at_call 19; with_reducible refine (k0 _).mono ?_; rintro e w0 ⟨rfl, hq0⟩; obtain ⟨x10, x20, x30⟩ := qcell hq0; have hz0 : w.heap.size < w0.heap.size := (by have := hq0.size; (try simp at this); omega))
        | (go_at_call 22; with_reducible refine (k1 _).mono ?_; rintro e w1 ⟨rfl, hq1⟩; obtain ⟨x11, x21, x31⟩ := qcell hq1; have hz1 : w.heap.size < w1.heap.size := (by have := hq1.size; (try simp at this); omega))
        | (go_at_call 21; with_reducible refine (k2 _).mono ?_; rintro e w2 ⟨rfl, hq2⟩; obtain ⟨x12, x22, x32⟩ := qcell hq2; have hz2 : w.heap.size < w2.heap.size := (by have := hq2.size; (try simp at this); omega))
        | (go_at_call 23; with_reducible refine (k3 _).mono ?_; rintro e w3 ⟨rfl, hq3⟩; obtain ⟨x13, x23, x33⟩ := qcell hq3; have hz3 : w.heap.size < w3.heap.size := (by have := hq3.size; (try simp at this); omega))
        | (go_at_call 14; with_reducible refine (k4 _).mono ?_; rintro e w4 ⟨rfl, hq4⟩; obtain ⟨x14, x24, x34⟩ := qcell hq4; have hz4 : w.heap.size < w4.heap.size := (by have := hq4.size; (try simp at this); omega))
        | (go_at_call 24; with_reducible refine (k5 _).mono ?_; rintro e w5 ⟨rfl, hq5⟩; obtain ⟨x15, x25, x35⟩ := qcell hq5; have hz5 : w.heap.size < w5.heap.size := (by have := hq5.size; (try simp at this); omega))
        | (go_at_call 16; refine (works_any _).mono ?_; rintro e w99 ⟨rfl, hq99⟩))
      go_ret
      exact ⟨rfl, by repeat (first | exact Q.refl _ | assumption | refine Q.alloc ?_ _ | refine Q.drew ?_ | refine Q.drewN ?_ _ | refine Q.setCell ?_ (by first | exact Nat.le_refl _ | (simp; done) | (simp at *; omega)) _ | refine Q.trans ?_ (by assumption))⟩
    · clear far cnt
      go_enter Try.func6, Try.ntmps6
      go_wp2_with (first
        | (go_at_call 19; with_reducible refine (k0 _).mono ?_; rintro e w0 ⟨rfl, hq0⟩; obtain ⟨x10, x20, x30⟩ := qcell hq0; have hz0 : w.heap.size < w0.heap.size := (by have := hq0.size; (try simp at this); omega))
        | (go_at_call 22; with_reducible refine (k1 _).mono ?_; rintro e w1 ⟨rfl, hq1⟩; obtain ⟨x11, x21, x31⟩ := qcell hq1; have hz1 : w.heap.size < w1.heap.size := (by have := hq1.size; (try simp at this); omega))
        | (go_at_call 21; with_reducible refine (k2 _).mono ?_; rintro e w2 ⟨rfl, hq2⟩; obtain ⟨x12, x22, x32⟩ := qcell hq2; have hz2 : w.heap.size < w2.heap.size := (by have := hq2.size; (try simp at this); omega))
        | (go_at_call 23; with_reducible refine (k3 _).mono ?_; rintro e w3 ⟨rfl, hq3⟩; obtain ⟨x13, x23, x33⟩ := qcell hq3; have hz3 : w.heap.size < w3.heap.size := (by have := hq3.size; (try simp at this); omega))
        | (go_at_call 14; with_reducible refine (k4 _).mono ?_; rintro e w4 ⟨rfl, hq4⟩; obtain ⟨x14, x24, x34⟩ := qcell hq4; have hz4 : w.heap.size < w4.heap.size := (by have := hq4.size; (try simp at this); omega))
        | (go_at_call 24; with_reducible refine (k5 _).mono ?_; rintro e w5 ⟨rfl, hq5⟩; obtain ⟨x15, x25, x35⟩ := qcell hq5; have hz5 : w.heap.size < w5.heap.size := (by have := hq5.size; (try simp at this); omega))
        | (go_at_call 16; refine (works_any _).mono ?_; rintro e w99 ⟨rfl, hq99⟩))
      go_ret
      exact ⟨rfl, by repeat (first | exact Q.refl _ | assumption | refine Q.alloc ?_ _ | refine Q.drew ?_ | refine Q.drewN ?_ _ | refine Q.setCell ?_ (by first | exact Nat.le_refl _ | (simp; done) | (simp at *; omega)) _ | refine Q.trans ?_ (by assumption))⟩
  · have k0 := fun w2 => check_bad s p c h w2
    have k1 := fun w2 => last_bad s p c h w2
    clear h
    go_enter Try.func6, Try.ntmps6
    go_wp2_with (first
      | (go_at_call 19; with_reducible refine (k0 _).mono ?_; rintro e w0 ⟨rfl, hq0⟩; obtain ⟨x10, x20, x30⟩ := qcell hq0; have hz0 : w.heap.size < w0.heap.size := (by have := hq0.size; (try simp at this); omega))
      | (go_at_call 22; with_reducible refine (k1 _).mono ?_; rintro e w1 ⟨rfl, hq1⟩; obtain ⟨x11, x21, x31⟩ := qcell hq1; have hz1 : w.heap.size < w1.heap.size := (by have := hq1.size; (try simp at this); omega))
      | (go_at_call 16; refine (works_any _).mono ?_; rintro e w99 ⟨rfl, hq99⟩))
    go_ret
    exact ⟨rfl, by repeat (first | exact Q.refl _ | assumption | refine Q.alloc ?_ _ | refine Q.drew ?_ | refine Q.drewN ?_ _ | refine Q.setCell ?_ (by first | exact Nat.le_refl _ | (simp; done) | (simp at *; omega)) _ | refine Q.trans ?_ (by assumption))⟩
end Go.Proofs.Ytfhplhfgcanfbaa
