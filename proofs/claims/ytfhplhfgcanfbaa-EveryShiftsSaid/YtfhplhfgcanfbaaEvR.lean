/- The walks of the laws EveryIndexes and EveryShifts. -/
import Derived.Test.YtfhplhfgcanfbaaEvQ
namespace Go.Proofs.Ytfhplhfgcanfbaa
open Go.RowKit
set_option linter.unusedVariables false
set_option linter.unusedSimpArgs false
set_option maxHeartbeats 4000000 in
theorem everyIndexes_walk (s p c n t : Int) (ws : (Lit.int .i64 s).wf = true) (wp : (Lit.int .i64 p).wf = true) (wc : (Lit.int .i64 c).wf = true) (wn : (Lit.int .i64 n).wf = true) (wt : (Lit.int .i64 t).wf = true) (w : World) :
    Calls Try.prog 11 #[.agg #[.int .i64 s, .int .i64 p, .int .i64 c], .int .i64 n, .int .i64 t] w fun e w' => e = .returned (.bool true) ∧ Q w w' := by
  clear ws wp wc wn wt
  by_cases h : Ev.Ok s p c
  · have k0 := fun w2 => check_ok s p c h w2
    by_cases hn : 0 ≤ n ∧ n < Ev.num s p c
    · have k1 := fun w2 => nth_in s p c n h hn.1 hn.2 w2
      have hi : Ev.isB s p c (s + n * p) = true := (Ev.is_iff h _).2 ⟨n, hn.1, hn.2, rfl⟩
      have hp := h.2.2.1
      have hs0 := And.intro h.1 h.2.1
      have hnn := Ev.tm_nonneg hp hn.1
      have hle := Ev.tm_le h hn.2
      have ha : Ev.TOk (s + n * p) := ⟨by omega, hle⟩
      have k2 := fun w2 => index_in s p c _ h ha hi w2
      have k3 := fun w2 => count_ok s p c s _ h hs0 ha w2
      have k4 := fun w2 => tm_ok _ ha w2
      rw [Ev.bef_tm h hn.1 hn.2] at k2
      have e1 : Ev.cntV s p c s (s + n * p) = n + 1 := by
        unfold Ev.cntV
        rw [if_pos (by omega), Ev.bef_tm1 h hn.1 hn.2, Ev.bef_none (Int.le_refl _)]; omega
      rw [e1] at k3
      have hmax := Ev.num_max h
      have n1 : 0 ≤ n ∧ n ≤ 253402300800 := by omega
      obtain ⟨A, hA⟩ : ∃ A, s + n * p = A := ⟨_, rfl⟩
      have eq : (A - s) / p = n := by rw [← hA, show s + n * p - s = n * p by omega, Int.mul_ediv_cancel _ (by omega)]
      have er : (A - s) % p = 0 := by rw [← hA, show s + n * p - s = n * p by omega, Int.mul_emod_left]
      rw [hA] at k1 k2 k3 k4 hle
      have hge : s ≤ A := by omega
      by_cases hat : A = t
      · subst hat
        clear hA hi hn hnn e1 ha h
        have k6 := k1
        go_enter Try.func11, Try.ntmps11
        go_wp2_with (first
          | (go_at_call 19; with_reducible refine (k0 _).mono ?_; rintro e w0 ⟨rfl, hq0⟩; obtain ⟨x10, x20, x30⟩ := qcell hq0; have hz0 : w.heap.size < w0.heap.size := (by have := hq0.size; (try simp at this); omega))
          | (go_at_call 25; with_reducible refine (k1 _).mono ?_; rintro e w1 ⟨rfl, hq1⟩; obtain ⟨x11, x21, x31⟩ := qcell hq1; have hz1 : w.heap.size < w1.heap.size := (by have := hq1.size; (try simp at this); omega))
          | (go_at_call 24; with_reducible refine (k2 _).mono ?_; rintro e w2 ⟨rfl, hq2⟩; obtain ⟨x12, x22, x32⟩ := qcell hq2; have hz2 : w.heap.size < w2.heap.size := (by have := hq2.size; (try simp at this); omega))
          | (go_at_call 14; with_reducible refine (k3 _).mono ?_; rintro e w3 ⟨rfl, hq3⟩; obtain ⟨x13, x23, x33⟩ := qcell hq3; have hz3 : w.heap.size < w3.heap.size := (by have := hq3.size; (try simp at this); omega))
          | (go_at_call 20; with_reducible refine (k4 _).mono ?_; rintro e w14 ⟨rfl, rfl⟩)
          | (go_at_call 16; refine (works_any _).mono ?_; rintro e w99 ⟨rfl, hq99⟩))
        go_ret
        exact ⟨rfl, by repeat (first | exact Q.refl _ | assumption | refine Q.alloc ?_ _ | refine Q.drew ?_ | refine Q.drewN ?_ _ | refine Q.setCell ?_ (by first | exact Nat.le_refl _ | (simp; done) | (simp at *; omega)) _ | refine Q.trans ?_ (by assumption))⟩
      · clear hA hi hn hnn e1 ha
        by_cases ht : Ev.TOk t
        · cases hi : Ev.isB s p c t with
          | true =>
            have k5 := fun w2 => index_in s p c t h ht hi w2
            have hb := Ev.bef_le h t
            have hh := (Ev.has_iff h t).1 hi
            have k6 := fun w2 => nth_in s p c _ h hb.1 hh.1 w2
            rw [hh.2] at k6
            have hb0 := hb.1
            obtain ⟨K, hK⟩ : ∃ K, Ev.bef s p c t = K := ⟨_, rfl⟩
            rw [hK] at k5 k6 hb0
            clear hK hh hb hi ht h
            go_enter Try.func11, Try.ntmps11
            go_wp2_with (first
              | (go_at_call 19; with_reducible refine (k0 _).mono ?_; rintro e w0 ⟨rfl, hq0⟩; obtain ⟨x10, x20, x30⟩ := qcell hq0; have hz0 : w.heap.size < w0.heap.size := (by have := hq0.size; (try simp at this); omega))
              | (go_at_call 25; with_reducible refine (k1 _).mono ?_; rintro e w1 ⟨rfl, hq1⟩; obtain ⟨x11, x21, x31⟩ := qcell hq1; have hz1 : w.heap.size < w1.heap.size := (by have := hq1.size; (try simp at this); omega))
              | (go_at_call 24; with_reducible refine (k2 _).mono ?_; rintro e w2 ⟨rfl, hq2⟩; obtain ⟨x12, x22, x32⟩ := qcell hq2; have hz2 : w.heap.size < w2.heap.size := (by have := hq2.size; (try simp at this); omega))
              | (go_at_call 14; with_reducible refine (k3 _).mono ?_; rintro e w3 ⟨rfl, hq3⟩; obtain ⟨x13, x23, x33⟩ := qcell hq3; have hz3 : w.heap.size < w3.heap.size := (by have := hq3.size; (try simp at this); omega))
              | (go_at_call 20; with_reducible refine (k4 _).mono ?_; rintro e w14 ⟨rfl, rfl⟩)
              | (go_at_call 24; with_reducible refine (k5 _).mono ?_; rintro e w5 ⟨rfl, hq5⟩; obtain ⟨x15, x25, x35⟩ := qcell hq5; have hz5 : w.heap.size < w5.heap.size := (by have := hq5.size; (try simp at this); omega))
              | (go_at_call 25; with_reducible refine (k6 _).mono ?_; rintro e w6 ⟨rfl, hq6⟩; obtain ⟨x16, x26, x36⟩ := qcell hq6; have hz6 : w.heap.size < w6.heap.size := (by have := hq6.size; (try simp at this); omega))
              | (go_at_call 16; refine (works_any _).mono ?_; rintro e w99 ⟨rfl, hq99⟩))
            go_ret
            exact ⟨rfl, by repeat (first | exact Q.refl _ | assumption | refine Q.alloc ?_ _ | refine Q.drew ?_ | refine Q.drewN ?_ _ | refine Q.setCell ?_ (by first | exact Nat.le_refl _ | (simp; done) | (simp at *; omega)) _ | refine Q.trans ?_ (by assumption))⟩
          | false =>
            have k5 := fun w2 => index_out s p c t h ht hi w2
            clear hi ht h
            go_enter Try.func11, Try.ntmps11
            go_wp2_with (first
              | (go_at_call 19; with_reducible refine (k0 _).mono ?_; rintro e w0 ⟨rfl, hq0⟩; obtain ⟨x10, x20, x30⟩ := qcell hq0; have hz0 : w.heap.size < w0.heap.size := (by have := hq0.size; (try simp at this); omega))
              | (go_at_call 25; with_reducible refine (k1 _).mono ?_; rintro e w1 ⟨rfl, hq1⟩; obtain ⟨x11, x21, x31⟩ := qcell hq1; have hz1 : w.heap.size < w1.heap.size := (by have := hq1.size; (try simp at this); omega))
              | (go_at_call 24; with_reducible refine (k2 _).mono ?_; rintro e w2 ⟨rfl, hq2⟩; obtain ⟨x12, x22, x32⟩ := qcell hq2; have hz2 : w.heap.size < w2.heap.size := (by have := hq2.size; (try simp at this); omega))
              | (go_at_call 14; with_reducible refine (k3 _).mono ?_; rintro e w3 ⟨rfl, hq3⟩; obtain ⟨x13, x23, x33⟩ := qcell hq3; have hz3 : w.heap.size < w3.heap.size := (by have := hq3.size; (try simp at this); omega))
              | (go_at_call 20; with_reducible refine (k4 _).mono ?_; rintro e w14 ⟨rfl, rfl⟩)
              | (go_at_call 24; with_reducible refine (k5 _).mono ?_; rintro e w5 ⟨rfl, hq5⟩; obtain ⟨x15, x25, x35⟩ := qcell hq5; have hz5 : w.heap.size < w5.heap.size := (by have := hq5.size; (try simp at this); omega))
              | (go_at_call 16; refine (works_any _).mono ?_; rintro e w99 ⟨rfl, hq99⟩))
            go_ret
            exact ⟨rfl, by repeat (first | exact Q.refl _ | assumption | refine Q.alloc ?_ _ | refine Q.drew ?_ | refine Q.drewN ?_ _ | refine Q.setCell ?_ (by first | exact Nat.le_refl _ | (simp; done) | (simp at *; omega)) _ | refine Q.trans ?_ (by assumption))⟩
        · have k5 := fun w2 => index_time s p c t h ht w2
          clear ht h
          go_enter Try.func11, Try.ntmps11
          go_wp2_with (first
            | (go_at_call 19; with_reducible refine (k0 _).mono ?_; rintro e w0 ⟨rfl, hq0⟩; obtain ⟨x10, x20, x30⟩ := qcell hq0; have hz0 : w.heap.size < w0.heap.size := (by have := hq0.size; (try simp at this); omega))
            | (go_at_call 25; with_reducible refine (k1 _).mono ?_; rintro e w1 ⟨rfl, hq1⟩; obtain ⟨x11, x21, x31⟩ := qcell hq1; have hz1 : w.heap.size < w1.heap.size := (by have := hq1.size; (try simp at this); omega))
            | (go_at_call 24; with_reducible refine (k2 _).mono ?_; rintro e w2 ⟨rfl, hq2⟩; obtain ⟨x12, x22, x32⟩ := qcell hq2; have hz2 : w.heap.size < w2.heap.size := (by have := hq2.size; (try simp at this); omega))
            | (go_at_call 14; with_reducible refine (k3 _).mono ?_; rintro e w3 ⟨rfl, hq3⟩; obtain ⟨x13, x23, x33⟩ := qcell hq3; have hz3 : w.heap.size < w3.heap.size := (by have := hq3.size; (try simp at this); omega))
            | (go_at_call 20; with_reducible refine (k4 _).mono ?_; rintro e w14 ⟨rfl, rfl⟩)
            | (go_at_call 24; with_reducible refine (k5 _).mono ?_; rintro e w5 ⟨rfl, hq5⟩; obtain ⟨x15, x25, x35⟩ := qcell hq5; have hz5 : w.heap.size < w5.heap.size := (by have := hq5.size; (try simp at this); omega))
            | (go_at_call 16; refine (works_any _).mono ?_; rintro e w99 ⟨rfl, hq99⟩))
          go_ret
          exact ⟨rfl, by repeat (first | exact Q.refl _ | assumption | refine Q.alloc ?_ _ | refine Q.drew ?_ | refine Q.drewN ?_ _ | refine Q.setCell ?_ (by first | exact Nat.le_refl _ | (simp; done) | (simp at *; omega)) _ | refine Q.trans ?_ (by assumption))⟩
    · have k1 := fun w2 => nth_out s p c n h (by omega) w2
      clear hn
      by_cases ht : Ev.TOk t
      · cases hi : Ev.isB s p c t with
        | true =>
          have k5 := fun w2 => index_in s p c t h ht hi w2
          have hb := Ev.bef_le h t
          have hh := (Ev.has_iff h t).1 hi
          have k6 := fun w2 => nth_in s p c _ h hb.1 hh.1 w2
          rw [hh.2] at k6
          have hb0 := hb.1
          obtain ⟨K, hK⟩ : ∃ K, Ev.bef s p c t = K := ⟨_, rfl⟩
          rw [hK] at k5 k6 hb0
          clear hK hh hb hi ht h
          go_enter Try.func11, Try.ntmps11
          go_wp2_with (first
            | (go_at_call 19; with_reducible refine (k0 _).mono ?_; rintro e w0 ⟨rfl, hq0⟩; obtain ⟨x10, x20, x30⟩ := qcell hq0; have hz0 : w.heap.size < w0.heap.size := (by have := hq0.size; (try simp at this); omega))
            | (go_at_call 25; with_reducible refine (k1 _).mono ?_; rintro e w1 ⟨rfl, hq1⟩; obtain ⟨x11, x21, x31⟩ := qcell hq1; have hz1 : w.heap.size < w1.heap.size := (by have := hq1.size; (try simp at this); omega))
            | (go_at_call 24; with_reducible refine (k5 _).mono ?_; rintro e w5 ⟨rfl, hq5⟩; obtain ⟨x15, x25, x35⟩ := qcell hq5; have hz5 : w.heap.size < w5.heap.size := (by have := hq5.size; (try simp at this); omega))
            | (go_at_call 25; with_reducible refine (k6 _).mono ?_; rintro e w6 ⟨rfl, hq6⟩; obtain ⟨x16, x26, x36⟩ := qcell hq6; have hz6 : w.heap.size < w6.heap.size := (by have := hq6.size; (try simp at this); omega))
            | (go_at_call 16; refine (works_any _).mono ?_; rintro e w99 ⟨rfl, hq99⟩))
          go_ret
          exact ⟨rfl, by repeat (first | exact Q.refl _ | assumption | refine Q.alloc ?_ _ | refine Q.drew ?_ | refine Q.drewN ?_ _ | refine Q.setCell ?_ (by first | exact Nat.le_refl _ | (simp; done) | (simp at *; omega)) _ | refine Q.trans ?_ (by assumption))⟩
        | false =>
          have k5 := fun w2 => index_out s p c t h ht hi w2
          clear hi ht h
          go_enter Try.func11, Try.ntmps11
          go_wp2_with (first
            | (go_at_call 19; with_reducible refine (k0 _).mono ?_; rintro e w0 ⟨rfl, hq0⟩; obtain ⟨x10, x20, x30⟩ := qcell hq0; have hz0 : w.heap.size < w0.heap.size := (by have := hq0.size; (try simp at this); omega))
            | (go_at_call 25; with_reducible refine (k1 _).mono ?_; rintro e w1 ⟨rfl, hq1⟩; obtain ⟨x11, x21, x31⟩ := qcell hq1; have hz1 : w.heap.size < w1.heap.size := (by have := hq1.size; (try simp at this); omega))
            | (go_at_call 24; with_reducible refine (k5 _).mono ?_; rintro e w5 ⟨rfl, hq5⟩; obtain ⟨x15, x25, x35⟩ := qcell hq5; have hz5 : w.heap.size < w5.heap.size := (by have := hq5.size; (try simp at this); omega))
            | (go_at_call 16; refine (works_any _).mono ?_; rintro e w99 ⟨rfl, hq99⟩))
          go_ret
          exact ⟨rfl, by repeat (first | exact Q.refl _ | assumption | refine Q.alloc ?_ _ | refine Q.drew ?_ | refine Q.drewN ?_ _ | refine Q.setCell ?_ (by first | exact Nat.le_refl _ | (simp; done) | (simp at *; omega)) _ | refine Q.trans ?_ (by assumption))⟩
      · have k5 := fun w2 => index_time s p c t h ht w2
        clear ht h
        go_enter Try.func11, Try.ntmps11
        go_wp2_with (first
          | (go_at_call 19; with_reducible refine (k0 _).mono ?_; rintro e w0 ⟨rfl, hq0⟩; obtain ⟨x10, x20, x30⟩ := qcell hq0; have hz0 : w.heap.size < w0.heap.size := (by have := hq0.size; (try simp at this); omega))
          | (go_at_call 25; with_reducible refine (k1 _).mono ?_; rintro e w1 ⟨rfl, hq1⟩; obtain ⟨x11, x21, x31⟩ := qcell hq1; have hz1 : w.heap.size < w1.heap.size := (by have := hq1.size; (try simp at this); omega))
          | (go_at_call 24; with_reducible refine (k5 _).mono ?_; rintro e w5 ⟨rfl, hq5⟩; obtain ⟨x15, x25, x35⟩ := qcell hq5; have hz5 : w.heap.size < w5.heap.size := (by have := hq5.size; (try simp at this); omega))
          | (go_at_call 16; refine (works_any _).mono ?_; rintro e w99 ⟨rfl, hq99⟩))
        go_ret
        exact ⟨rfl, by repeat (first | exact Q.refl _ | assumption | refine Q.alloc ?_ _ | refine Q.drew ?_ | refine Q.drewN ?_ _ | refine Q.setCell ?_ (by first | exact Nat.le_refl _ | (simp; done) | (simp at *; omega)) _ | refine Q.trans ?_ (by assumption))⟩
  · have k0 := fun w2 => check_bad s p c h w2
    clear h
    go_enter Try.func11, Try.ntmps11
    go_wp2_with (first
      | (go_at_call 19; with_reducible refine (k0 _).mono ?_; rintro e w0 ⟨rfl, hq0⟩; obtain ⟨x10, x20, x30⟩ := qcell hq0; have hz0 : w.heap.size < w0.heap.size := (by have := hq0.size; (try simp at this); omega))
      | (go_at_call 16; refine (works_any _).mono ?_; rintro e w99 ⟨rfl, hq99⟩))
    go_ret
    exact ⟨rfl, by repeat (first | exact Q.refl _ | assumption | refine Q.alloc ?_ _ | refine Q.drew ?_ | refine Q.drewN ?_ _ | refine Q.setCell ?_ (by first | exact Nat.le_refl _ | (simp; done) | (simp at *; omega)) _ | refine Q.trans ?_ (by assumption))⟩
theorem bdu32 {a : Int} (h : (Lit.int .u32 a).wf = true) : 0 ≤ a ∧ a ≤ 4294967295 := by
  have hmin : IntKind.u32.min = 0 := rfl
  have hmax : IntKind.u32.max = 4294967295 := rfl
  simp only [Lit.wf, Bool.and_eq_true, decide_eq_true_eq] at h; omega
set_option maxRecDepth 20000 in
set_option maxHeartbeats 4000000 in
theorem everyShifts_walk (s p c t b : Int) (ws : (Lit.int .i64 s).wf = true) (wp : (Lit.int .i64 p).wf = true) (wc : (Lit.int .i64 c).wf = true) (wt : (Lit.int .i64 t).wf = true) (wb : (Lit.int .u32 b).wf = true) (w : World) :
    Calls Try.prog 9 #[.agg #[.int .i64 s, .int .i64 p, .int .i64 c], .int .i64 t, .int .u32 b] w fun e w' => e = .returned (.bool true) ∧ Q w w' := by
  have hb := bdu32 wb
  clear ws wp wc wt wb
  obtain ⟨d, hd⟩ : ∃ d, b % 1048576 = d := ⟨_, rfl⟩
  have hdb : 0 ≤ d ∧ d < 1048576 := by omega
  by_cases h : Ev.Ok s p c
  · have k0 := fun w2 => check_ok s p c h w2
    by_cases ht : Ev.TOk t
    · have k1 := fun w2 => tm_ok t ht w2
      have t1 := ht
      unfold Ev.TOk at t1
      by_cases ht2 : t ≤ 253401252223
      · by_cases hs : s ≤ 253401252223
        · have h' := Ev.shift_ok h hdb hs
          have ht' : Ev.TOk (t + d) := by unfold Ev.TOk; omega
          have k2 := fun w2 => is_ok s p c t h ht w2
          have k3 := fun w2 => is_ok (s + d) p c (t + d) h' ht' w2
          have k4 := fun w2 => next_ok s p c t h ht w2
          have k5 := fun w2 => next_ok (s + d) p c (t + d) h' ht' w2
          rw [Ev.shift_is h hdb hs ht2] at k3
          have s0 := h.1
          obtain ⟨I, hI⟩ : ∃ I, Ev.isB s p c t = I := ⟨_, rfl⟩
          rw [hI] at k2 k3
          obtain ⟨V, hV⟩ : ∃ V, Ev.nxtV s p c t = V := ⟨_, rfl⟩
          obtain ⟨Bn, hBn⟩ : ∃ Bn, Ev.nxtB s p c t = Bn := ⟨_, rfl⟩
          obtain ⟨V2, hV2⟩ : ∃ V, Ev.nxtV (s + d) p c (t + d) = V := ⟨_, rfl⟩
          obtain ⟨B2, hB2⟩ : ∃ Bn, Ev.nxtB (s + d) p c (t + d) = Bn := ⟨_, rfl⟩
          have vb : 0 ≤ V ∧ V ≤ 253402300799 := by
            rw [← hV]; unfold Ev.nxtV
            have b := Ev.bef_le h (t + 1)
            split
            · rename_i hh
              have := Ev.tm_nonneg h.2.2.1 b.1
              have := Ev.tm_le h hh
              omega
            · omega
          have cut := Ev.shift_next h hdb hs ht2
          rw [hV, hBn, hV2, hB2] at cut
          rw [hV, hBn] at k4
          rw [hV2, hB2] at k5
          clear hV hBn hV2 hB2 hI h h' ht ht'
          rcases cut with ⟨rfl, v1, rfl, rfl⟩ | ⟨rfl, v1, rfl, rfl⟩ | ⟨rfl, rfl, rfl, rfl⟩
          · have v2 : V ≤ 253402300799 := by omega
            go_enter Try.func9, Try.ntmps9
            go_wp2_with (first
              | (go_at_call 19; with_reducible refine (k0 _).mono ?_; rintro e w0 ⟨rfl, hq0⟩; obtain ⟨x10, x20, x30⟩ := qcell hq0; have hz0 : w.heap.size < w0.heap.size := (by have := hq0.size; (try simp at this); omega); have hy0 : w.heap.size + 1 < w0.heap.size := (by have := hq0.size; (try simp at this); omega))
              | (go_at_call 20; with_reducible refine (k1 _).mono ?_; rintro e w11 ⟨rfl, rfl⟩)
              | (go_at_call 21; with_reducible refine (k2 _).mono ?_; rintro e w2 ⟨rfl, hq2⟩; obtain ⟨x12, x22, x32⟩ := qcell hq2; have hz2 : w.heap.size < w2.heap.size := (by have := hq2.size; (try simp at this); omega); have hy2 : w.heap.size + 1 < w2.heap.size := (by have := hq2.size; (try simp at this); omega))
              | (go_at_call 21; with_reducible refine (k3 _).mono ?_; rintro e w3 ⟨rfl, hq3⟩; obtain ⟨x13, x23, x33⟩ := qcell hq3; have hz3 : w.heap.size < w3.heap.size := (by have := hq3.size; (try simp at this); omega); have hy3 : w.heap.size + 1 < w3.heap.size := (by have := hq3.size; (try simp at this); omega))
              | (go_at_call 23; with_reducible refine (k4 _).mono ?_; rintro e w4 ⟨rfl, hq4⟩; obtain ⟨x14, x24, x34⟩ := qcell hq4; have hz4 : w.heap.size < w4.heap.size := (by have := hq4.size; (try simp at this); omega); have hy4 : w.heap.size + 1 < w4.heap.size := (by have := hq4.size; (try simp at this); omega))
              | (go_at_call 23; with_reducible refine (k5 _).mono ?_; rintro e w5 ⟨rfl, hq5⟩; obtain ⟨x15, x25, x35⟩ := qcell hq5; have hz5 : w.heap.size < w5.heap.size := (by have := hq5.size; (try simp at this); omega); have hy5 : w.heap.size + 1 < w5.heap.size := (by have := hq5.size; (try simp at this); omega))
              | (go_at_call 16; refine (works_any _).mono ?_; rintro e w99 ⟨rfl, hq99⟩))
            go_ret
            exact ⟨rfl, by repeat (first | exact Q.refl _ | assumption | refine Q.alloc ?_ _ | refine Q.drew ?_ | refine Q.drewN ?_ _ | refine Q.setCell ?_ (by first | exact Nat.le_refl _ | (simp; done) | (simp at *; omega)) _ | refine Q.trans ?_ (by assumption))⟩
          · skip
            go_enter Try.func9, Try.ntmps9
            go_wp2_with (first
              | (go_at_call 19; with_reducible refine (k0 _).mono ?_; rintro e w0 ⟨rfl, hq0⟩; obtain ⟨x10, x20, x30⟩ := qcell hq0; have hz0 : w.heap.size < w0.heap.size := (by have := hq0.size; (try simp at this); omega); have hy0 : w.heap.size + 1 < w0.heap.size := (by have := hq0.size; (try simp at this); omega))
              | (go_at_call 20; with_reducible refine (k1 _).mono ?_; rintro e w11 ⟨rfl, rfl⟩)
              | (go_at_call 21; with_reducible refine (k2 _).mono ?_; rintro e w2 ⟨rfl, hq2⟩; obtain ⟨x12, x22, x32⟩ := qcell hq2; have hz2 : w.heap.size < w2.heap.size := (by have := hq2.size; (try simp at this); omega); have hy2 : w.heap.size + 1 < w2.heap.size := (by have := hq2.size; (try simp at this); omega))
              | (go_at_call 21; with_reducible refine (k3 _).mono ?_; rintro e w3 ⟨rfl, hq3⟩; obtain ⟨x13, x23, x33⟩ := qcell hq3; have hz3 : w.heap.size < w3.heap.size := (by have := hq3.size; (try simp at this); omega); have hy3 : w.heap.size + 1 < w3.heap.size := (by have := hq3.size; (try simp at this); omega))
              | (go_at_call 23; with_reducible refine (k4 _).mono ?_; rintro e w4 ⟨rfl, hq4⟩; obtain ⟨x14, x24, x34⟩ := qcell hq4; have hz4 : w.heap.size < w4.heap.size := (by have := hq4.size; (try simp at this); omega); have hy4 : w.heap.size + 1 < w4.heap.size := (by have := hq4.size; (try simp at this); omega))
              | (go_at_call 23; with_reducible refine (k5 _).mono ?_; rintro e w5 ⟨rfl, hq5⟩; obtain ⟨x15, x25, x35⟩ := qcell hq5; have hz5 : w.heap.size < w5.heap.size := (by have := hq5.size; (try simp at this); omega); have hy5 : w.heap.size + 1 < w5.heap.size := (by have := hq5.size; (try simp at this); omega))
              | (go_at_call 16; refine (works_any _).mono ?_; rintro e w99 ⟨rfl, hq99⟩))
            go_ret
            exact ⟨rfl, by repeat (first | exact Q.refl _ | assumption | refine Q.alloc ?_ _ | refine Q.drew ?_ | refine Q.drewN ?_ _ | refine Q.setCell ?_ (by first | exact Nat.le_refl _ | (simp; done) | (simp at *; omega)) _ | refine Q.trans ?_ (by assumption))⟩
          · skip
            go_enter Try.func9, Try.ntmps9
            go_wp2_with (first
              | (go_at_call 19; with_reducible refine (k0 _).mono ?_; rintro e w0 ⟨rfl, hq0⟩; obtain ⟨x10, x20, x30⟩ := qcell hq0; have hz0 : w.heap.size < w0.heap.size := (by have := hq0.size; (try simp at this); omega); have hy0 : w.heap.size + 1 < w0.heap.size := (by have := hq0.size; (try simp at this); omega))
              | (go_at_call 20; with_reducible refine (k1 _).mono ?_; rintro e w11 ⟨rfl, rfl⟩)
              | (go_at_call 21; with_reducible refine (k2 _).mono ?_; rintro e w2 ⟨rfl, hq2⟩; obtain ⟨x12, x22, x32⟩ := qcell hq2; have hz2 : w.heap.size < w2.heap.size := (by have := hq2.size; (try simp at this); omega); have hy2 : w.heap.size + 1 < w2.heap.size := (by have := hq2.size; (try simp at this); omega))
              | (go_at_call 21; with_reducible refine (k3 _).mono ?_; rintro e w3 ⟨rfl, hq3⟩; obtain ⟨x13, x23, x33⟩ := qcell hq3; have hz3 : w.heap.size < w3.heap.size := (by have := hq3.size; (try simp at this); omega); have hy3 : w.heap.size + 1 < w3.heap.size := (by have := hq3.size; (try simp at this); omega))
              | (go_at_call 23; with_reducible refine (k4 _).mono ?_; rintro e w4 ⟨rfl, hq4⟩; obtain ⟨x14, x24, x34⟩ := qcell hq4; have hz4 : w.heap.size < w4.heap.size := (by have := hq4.size; (try simp at this); omega); have hy4 : w.heap.size + 1 < w4.heap.size := (by have := hq4.size; (try simp at this); omega))
              | (go_at_call 23; with_reducible refine (k5 _).mono ?_; rintro e w5 ⟨rfl, hq5⟩; obtain ⟨x15, x25, x35⟩ := qcell hq5; have hz5 : w.heap.size < w5.heap.size := (by have := hq5.size; (try simp at this); omega); have hy5 : w.heap.size + 1 < w5.heap.size := (by have := hq5.size; (try simp at this); omega))
              | (go_at_call 16; refine (works_any _).mono ?_; rintro e w99 ⟨rfl, hq99⟩))
            go_ret
            exact ⟨rfl, by repeat (first | exact Q.refl _ | assumption | refine Q.alloc ?_ _ | refine Q.drew ?_ | refine Q.drewN ?_ _ | refine Q.setCell ?_ (by first | exact Nat.le_refl _ | (simp; done) | (simp at *; omega)) _ | refine Q.trans ?_ (by assumption))⟩
        · clear h ht
          go_enter Try.func9, Try.ntmps9
          go_wp2_with (first
            | (go_at_call 19; with_reducible refine (k0 _).mono ?_; rintro e w0 ⟨rfl, hq0⟩; obtain ⟨x10, x20, x30⟩ := qcell hq0; have hz0 : w.heap.size < w0.heap.size := (by have := hq0.size; (try simp at this); omega); have hy0 : w.heap.size + 1 < w0.heap.size := (by have := hq0.size; (try simp at this); omega))
            | (go_at_call 20; with_reducible refine (k1 _).mono ?_; rintro e w11 ⟨rfl, rfl⟩)
            | (go_at_call 16; refine (works_any _).mono ?_; rintro e w99 ⟨rfl, hq99⟩))
          go_ret
          exact ⟨rfl, by repeat (first | exact Q.refl _ | assumption | refine Q.alloc ?_ _ | refine Q.drew ?_ | refine Q.drewN ?_ _ | refine Q.setCell ?_ (by first | exact Nat.le_refl _ | (simp; done) | (simp at *; omega)) _ | refine Q.trans ?_ (by assumption))⟩
      · clear h ht
        go_enter Try.func9, Try.ntmps9
        go_wp2_with (first
          | (go_at_call 19; with_reducible refine (k0 _).mono ?_; rintro e w0 ⟨rfl, hq0⟩; obtain ⟨x10, x20, x30⟩ := qcell hq0; have hz0 : w.heap.size < w0.heap.size := (by have := hq0.size; (try simp at this); omega); have hy0 : w.heap.size + 1 < w0.heap.size := (by have := hq0.size; (try simp at this); omega))
          | (go_at_call 20; with_reducible refine (k1 _).mono ?_; rintro e w11 ⟨rfl, rfl⟩)
          | (go_at_call 16; refine (works_any _).mono ?_; rintro e w99 ⟨rfl, hq99⟩))
        go_ret
        exact ⟨rfl, by repeat (first | exact Q.refl _ | assumption | refine Q.alloc ?_ _ | refine Q.drew ?_ | refine Q.drewN ?_ _ | refine Q.setCell ?_ (by first | exact Nat.le_refl _ | (simp; done) | (simp at *; omega)) _ | refine Q.trans ?_ (by assumption))⟩
    · have k1 := fun w2 => tm_no t ht w2
      clear h ht
      go_enter Try.func9, Try.ntmps9
      go_wp2_with (first
        | (go_at_call 19; with_reducible refine (k0 _).mono ?_; rintro e w0 ⟨rfl, hq0⟩; obtain ⟨x10, x20, x30⟩ := qcell hq0; have hz0 : w.heap.size < w0.heap.size := (by have := hq0.size; (try simp at this); omega); have hy0 : w.heap.size + 1 < w0.heap.size := (by have := hq0.size; (try simp at this); omega))
        | (go_at_call 20; with_reducible refine (k1 _).mono ?_; rintro e w11 ⟨rfl, rfl⟩)
        | (go_at_call 16; refine (works_any _).mono ?_; rintro e w99 ⟨rfl, hq99⟩))
      go_ret
      exact ⟨rfl, by repeat (first | exact Q.refl _ | assumption | refine Q.alloc ?_ _ | refine Q.drew ?_ | refine Q.drewN ?_ _ | refine Q.setCell ?_ (by first | exact Nat.le_refl _ | (simp; done) | (simp at *; omega)) _ | refine Q.trans ?_ (by assumption))⟩
  · have k0 := fun w2 => check_bad s p c h w2
    clear h
    go_enter Try.func9, Try.ntmps9
    go_wp2_with (first
      | (go_at_call 19; with_reducible refine (k0 _).mono ?_; rintro e w0 ⟨rfl, hq0⟩; obtain ⟨x10, x20, x30⟩ := qcell hq0; have hz0 : w.heap.size < w0.heap.size := (by have := hq0.size; (try simp at this); omega))
      | (go_at_call 16; refine (works_any _).mono ?_; rintro e w99 ⟨rfl, hq99⟩))
    go_ret
    exact ⟨rfl, by repeat (first | exact Q.refl _ | assumption | refine Q.alloc ?_ _ | refine Q.drew ?_ | refine Q.drewN ?_ _ | refine Q.setCell ?_ (by first | exact Nat.le_refl _ | (simp; done) | (simp at *; omega)) _ | refine Q.trans ?_ (by assumption))⟩
end Go.Proofs.Ytfhplhfgcanfbaa
