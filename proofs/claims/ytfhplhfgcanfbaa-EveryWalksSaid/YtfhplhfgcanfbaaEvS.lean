/- The walks of the laws EverySteps and EveryWalks. -/
import Derived.Test.YtfhplhfgcanfbaaEvQ
import Derived.Test.YtfhplhfgcanfbaaEvO
namespace Go.Proofs.Ytfhplhfgcanfbaa
open Go.RowKit
set_option linter.unusedVariables false
set_option linter.unusedSimpArgs false
/-- the schedule lies in block b -/
def EvAt (wr : World) (b : Nat) (s p c : Int) : Prop := wr.cell? ⟨b, 0, none⟩ = some (.int .i64 s) ∧ wr.cell? ⟨b, 1, none⟩ = some (.int .i64 p) ∧ wr.cell? ⟨b, 2, none⟩ = some (.int .i64 c) ∧ b < wr.heap.size
theorem EvAt.later {a b : World} {n : Nat} {s p c : Int} (h : EvAt a n s p c) (q : Q a b) : EvAt b n s p c := by
  obtain ⟨h0, h1, h2, h3⟩ := h
  exact ⟨(q.cell (p := ⟨n, 0, none⟩) h3).trans h0, (q.cell (p := ⟨n, 1, none⟩) h3).trans h1, (q.cell (p := ⟨n, 2, none⟩) h3).trans h2, Nat.lt_of_lt_of_le h3 q.size⟩
set_option maxRecDepth 20000 in
set_option maxHeartbeats 4000000 in
theorem everySteps_walk (s p c t : Int) (ws : (Lit.int .i64 s).wf = true) (wp : (Lit.int .i64 p).wf = true) (wc : (Lit.int .i64 c).wf = true) (wt : (Lit.int .i64 t).wf = true) (w : World) :
    Calls Try.prog 13 #[.agg #[.int .i64 s, .int .i64 p, .int .i64 c], .int .i64 t] w fun e w' => e = .returned (.bool true) ∧ Q w w' := by
  clear ws wp wc wt
  by_cases h : Ev.Ok s p c
  · have k0 := fun w2 => check_ok s p c h w2
    by_cases ht : Ev.TOk t
    · have k1 := fun w2 => tm_ok t ht w2
      have HH := Lib.hid h
      have HT := Lib.hid ht
      clear h ht
      go_enter Try.func13, Try.ntmps13
      go_wp2_with (first
        | (go_at_call 19; with_reducible refine (k0 _).mono ?_; rintro e w0 ⟨rfl, hq0⟩; obtain ⟨x10, x20, x30⟩ := qcell hq0; have hz0 : w.heap.size < w0.heap.size := (by have := hq0.size; (try simp at this); omega))
        | (go_at_call 20; with_reducible refine (k1 _).mono ?_; rintro e w11 ⟨rfl, rfl⟩))
      go_loopw [1, 29] (fun a i wr => ∃ (u : Int) (k : Nat), Ev.TOk u ∧ k ≤ 10 ∧ a = .int .i64 u ∧ i = .int .i64 k ∧ Q w wr ∧ EvAt wr w.heap.size s p c) (fun _ i _ => 10 - (intOf i).toNat)
      case atStart => exact ⟨t, 0, HT.out, by omega, rfl, rfl, ((Q.refl w).alloc _).trans hq0, by obtain ⟨y0, y1, y2, y3⟩ := box3 hq0; exact ⟨y0, y1, y2, y3⟩⟩
      case round =>
        clear k0 k1 hq0 x10 x20 x30 hz0 HT
        obtain ⟨u, k, hu, hk, rfl, rfl, hqr, hat⟩ := hrel
        have h := HH.out
        obtain ⟨wo, hwo⟩ : ∃ n, w.heap.size = n := ⟨_, rfl⟩
        rw [hwo] at hat ⊢
        have HWO := Lib.hid hwo
        have HQR := Lib.hid hqr
        clear hwo hqr HH
        have HAT := Lib.hid hat
        obtain ⟨a0, a1, a2, a3⟩ := hat
        by_cases hlt : k < 10
        · have k1 := fun w2 => is_ok s p c u h hu w2
          have k2 := fun w2 => next_ok s p c u h hu w2
          by_cases hb : Ev.bef s p c (u + 1) < Ev.num s p c
          · obtain ⟨V, hV⟩ : ∃ V, s + Ev.bef s p c (u + 1) * p = V := ⟨_, rfl⟩
            have e1 : Ev.nxtB s p c u = true := decide_eq_true hb
            have e2 : Ev.nxtV s p c u = V := by unfold Ev.nxtV; rw [if_pos hb, hV]
            obtain ⟨g1, g2, g3, g4, g5⟩ := Ev.step_next h hu hb hV
            have sb := Ev.step_back h hu hb hV
            rw [e1, e2] at k2
            have k3 := fun w2 => is_ok s p c V h g2 w2
            rw [g3] at k3
            have k4 := fun w2 => count_ok s p c u V h hu g2 w2
            have k5 := fun w2 => prev_ok s p c V h g2 w2
            have HV := Lib.hid g2
            have hne : u ≠ V := by omega
            clear hV e1 e2 g2 g3 g4 g5 hb
            rcases sb with ⟨i1, i2, i3, i4⟩ | ⟨i1, i2, ⟨i3, i4⟩ | ⟨i3, i4⟩⟩
            · rw [i1] at k1
              rw [i2] at k4
              rw [i3, i4] at k5
              clear i1 i2 i3 i4 h hu
              go_wp2_with (first
                | (go_at_call 21; with_reducible refine (k1 _).mono ?_; rintro e w1 ⟨rfl, hq1⟩; obtain ⟨x11, x21, x31⟩ := qcell hq1; have hz1 : wo < w1.heap.size := (by have := hq1.size; (try simp at this); omega))
                | (go_at_call 23; with_reducible refine (k2 _).mono ?_; rintro e w2 ⟨rfl, hq2⟩; obtain ⟨x12, x22, x32⟩ := qcell hq2; have hz2 : wo < w2.heap.size := (by have := hq2.size; (try simp at this); omega))
                | (go_at_call 21; with_reducible refine (k3 _).mono ?_; rintro e w3 ⟨rfl, hq3⟩; obtain ⟨x13, x23, x33⟩ := qcell hq3; have hz3 : wo < w3.heap.size := (by have := hq3.size; (try simp at this); omega))
                | (go_at_call 14; with_reducible refine (k4 _).mono ?_; rintro e w4 ⟨rfl, hq4⟩; obtain ⟨x14, x24, x34⟩ := qcell hq4; have hz4 : wo < w4.heap.size := (by have := hq4.size; (try simp at this); omega))
                | (go_at_call 31; with_reducible refine (k5 _).mono ?_; rintro e w5 ⟨rfl, hq5⟩; obtain ⟨x15, x25, x35⟩ := qcell hq5; have hz5 : wo < w5.heap.size := (by have := hq5.size; (try simp at this); omega)))
              go_roundw
              case rel => exact ⟨V, k + 1, HV.out, by omega, rfl, by go_num, HQR.out.trans (by repeat (first | exact Q.refl _ | assumption | refine Q.alloc ?_ _ | refine Q.drew ?_ | refine Q.drewN ?_ _ | refine Q.setCell ?_ (by first | exact Nat.le_refl _ | (simp; done) | (simp at *; omega)) _ | refine Q.trans ?_ (by assumption))), HAT.out.later (by repeat (first | exact Q.refl _ | assumption | refine Q.alloc ?_ _ | refine Q.drew ?_ | refine Q.drewN ?_ _ | refine Q.setCell ?_ (by first | exact Nat.le_refl _ | (simp; done) | (simp at *; omega)) _ | refine Q.trans ?_ (by assumption)))⟩
              case measure => simp [intOf]; omega
            · rw [i1] at k1
              rw [i2] at k4
              obtain ⟨P, hP⟩ : ∃ P, Ev.prvV s p c V = P := ⟨_, rfl⟩
              rw [hP] at i4
              rw [i3, hP] at k5
              clear i1 i2 i3 hP h hu
              go_wp2_with (first
                | (go_at_call 21; with_reducible refine (k1 _).mono ?_; rintro e w1 ⟨rfl, hq1⟩; obtain ⟨x11, x21, x31⟩ := qcell hq1; have hz1 : wo < w1.heap.size := (by have := hq1.size; (try simp at this); omega))
                | (go_at_call 23; with_reducible refine (k2 _).mono ?_; rintro e w2 ⟨rfl, hq2⟩; obtain ⟨x12, x22, x32⟩ := qcell hq2; have hz2 : wo < w2.heap.size := (by have := hq2.size; (try simp at this); omega))
                | (go_at_call 21; with_reducible refine (k3 _).mono ?_; rintro e w3 ⟨rfl, hq3⟩; obtain ⟨x13, x23, x33⟩ := qcell hq3; have hz3 : wo < w3.heap.size := (by have := hq3.size; (try simp at this); omega))
                | (go_at_call 14; with_reducible refine (k4 _).mono ?_; rintro e w4 ⟨rfl, hq4⟩; obtain ⟨x14, x24, x34⟩ := qcell hq4; have hz4 : wo < w4.heap.size := (by have := hq4.size; (try simp at this); omega))
                | (go_at_call 31; with_reducible refine (k5 _).mono ?_; rintro e w5 ⟨rfl, hq5⟩; obtain ⟨x15, x25, x35⟩ := qcell hq5; have hz5 : wo < w5.heap.size := (by have := hq5.size; (try simp at this); omega)))
              go_roundw
              case rel => exact ⟨V, k + 1, HV.out, by omega, rfl, by go_num, HQR.out.trans (by repeat (first | exact Q.refl _ | assumption | refine Q.alloc ?_ _ | refine Q.drew ?_ | refine Q.drewN ?_ _ | refine Q.setCell ?_ (by first | exact Nat.le_refl _ | (simp; done) | (simp at *; omega)) _ | refine Q.trans ?_ (by assumption))), HAT.out.later (by repeat (first | exact Q.refl _ | assumption | refine Q.alloc ?_ _ | refine Q.drew ?_ | refine Q.drewN ?_ _ | refine Q.setCell ?_ (by first | exact Nat.le_refl _ | (simp; done) | (simp at *; omega)) _ | refine Q.trans ?_ (by assumption)))⟩
              case measure => simp [intOf]; omega
            · rw [i1] at k1
              rw [i2] at k4
              rw [i3, i4] at k5
              clear i1 i2 i3 i4 h hu
              go_wp2_with (first
                | (go_at_call 21; with_reducible refine (k1 _).mono ?_; rintro e w1 ⟨rfl, hq1⟩; obtain ⟨x11, x21, x31⟩ := qcell hq1; have hz1 : wo < w1.heap.size := (by have := hq1.size; (try simp at this); omega))
                | (go_at_call 23; with_reducible refine (k2 _).mono ?_; rintro e w2 ⟨rfl, hq2⟩; obtain ⟨x12, x22, x32⟩ := qcell hq2; have hz2 : wo < w2.heap.size := (by have := hq2.size; (try simp at this); omega))
                | (go_at_call 21; with_reducible refine (k3 _).mono ?_; rintro e w3 ⟨rfl, hq3⟩; obtain ⟨x13, x23, x33⟩ := qcell hq3; have hz3 : wo < w3.heap.size := (by have := hq3.size; (try simp at this); omega))
                | (go_at_call 14; with_reducible refine (k4 _).mono ?_; rintro e w4 ⟨rfl, hq4⟩; obtain ⟨x14, x24, x34⟩ := qcell hq4; have hz4 : wo < w4.heap.size := (by have := hq4.size; (try simp at this); omega))
                | (go_at_call 31; with_reducible refine (k5 _).mono ?_; rintro e w5 ⟨rfl, hq5⟩; obtain ⟨x15, x25, x35⟩ := qcell hq5; have hz5 : wo < w5.heap.size := (by have := hq5.size; (try simp at this); omega)))
              go_roundw
              case rel => exact ⟨V, k + 1, HV.out, by omega, rfl, by go_num, HQR.out.trans (by repeat (first | exact Q.refl _ | assumption | refine Q.alloc ?_ _ | refine Q.drew ?_ | refine Q.drewN ?_ _ | refine Q.setCell ?_ (by first | exact Nat.le_refl _ | (simp; done) | (simp at *; omega)) _ | refine Q.trans ?_ (by assumption))), HAT.out.later (by repeat (first | exact Q.refl _ | assumption | refine Q.alloc ?_ _ | refine Q.drew ?_ | refine Q.drewN ?_ _ | refine Q.setCell ?_ (by first | exact Nat.le_refl _ | (simp; done) | (simp at *; omega)) _ | refine Q.trans ?_ (by assumption)))⟩
              case measure => simp [intOf]; omega
          · have e1 : Ev.nxtB s p c u = false := decide_eq_false hb
            have e2 : Ev.nxtV s p c u = 0 := if_neg hb
            rw [e1, e2] at k2
            have k6 := fun w2 => last_ok s p c h w2
            have hl := Ev.step_last h hb
            obtain ⟨L, hL⟩ : ∃ L, s + (Ev.num s p c - 1) * p = L := ⟨_, rfl⟩
            rw [hL] at k6 hl
            obtain ⟨I, hI⟩ : ∃ I, Ev.isB s p c u = I := ⟨_, rfl⟩
            rw [hI] at k1
            clear e1 e2 hb hL hI h hu
            go_wp2_with (first
              | (go_at_call 21; with_reducible refine (k1 _).mono ?_; rintro e w1 ⟨rfl, hq1⟩; obtain ⟨x11, x21, x31⟩ := qcell hq1; have hz1 : wo < w1.heap.size := (by have := hq1.size; (try simp at this); omega))
              | (go_at_call 23; with_reducible refine (k2 _).mono ?_; rintro e w2 ⟨rfl, hq2⟩; obtain ⟨x12, x22, x32⟩ := qcell hq2; have hz2 : wo < w2.heap.size := (by have := hq2.size; (try simp at this); omega))
              | (go_at_call 22; with_reducible refine (k6 _).mono ?_; rintro e w6 ⟨rfl, hq6⟩; obtain ⟨x16, x26, x36⟩ := qcell hq6; have hz6 : wo < w6.heap.size := (by have := hq6.size; (try simp at this); omega))
              | (go_at_call 16; refine (works_any _).mono ?_; rintro e w99 ⟨rfl, hq99⟩))
            go_ret
            exact ⟨rfl, HQR.out.trans (by repeat (first | exact Q.refl _ | assumption | refine Q.alloc ?_ _ | refine Q.drew ?_ | refine Q.drewN ?_ _ | refine Q.setCell ?_ (by first | exact Nat.le_refl _ | (simp; done) | (simp at *; omega)) _ | refine Q.trans ?_ (by assumption)))⟩
        · obtain rfl : k = 10 := by omega
          clear h hu
          go_wp2_with (first
            | (go_at_call 16; refine (works_any _).mono ?_; rintro e w99 ⟨rfl, hq99⟩))
          go_ret
          exact ⟨rfl, HQR.out.trans (by repeat (first | exact Q.refl _ | assumption | refine Q.alloc ?_ _ | refine Q.drew ?_ | refine Q.drewN ?_ _ | refine Q.setCell ?_ (by first | exact Nat.le_refl _ | (simp; done) | (simp at *; omega)) _ | refine Q.trans ?_ (by assumption)))⟩
    · have k1 := fun w2 => tm_no t ht w2
      clear h ht
      go_enter Try.func13, Try.ntmps13
      go_wp2_with (first
        | (go_at_call 19; with_reducible refine (k0 _).mono ?_; rintro e w0 ⟨rfl, hq0⟩; obtain ⟨x10, x20, x30⟩ := qcell hq0; have hz0 : w.heap.size < w0.heap.size := (by have := hq0.size; (try simp at this); omega))
        | (go_at_call 20; with_reducible refine (k1 _).mono ?_; rintro e w11 ⟨rfl, rfl⟩)
        | (go_at_call 16; refine (works_any _).mono ?_; rintro e w99 ⟨rfl, hq99⟩))
      go_ret
      exact ⟨rfl, by repeat (first | exact Q.refl _ | assumption | refine Q.alloc ?_ _ | refine Q.drew ?_ | refine Q.drewN ?_ _ | refine Q.setCell ?_ (by first | exact Nat.le_refl _ | (simp; done) | (simp at *; omega)) _ | refine Q.trans ?_ (by assumption))⟩
  · have k0 := fun w2 => check_bad s p c h w2
    clear h
    go_enter Try.func13, Try.ntmps13
    go_wp2_with (first
      | (go_at_call 19; with_reducible refine (k0 _).mono ?_; rintro e w0 ⟨rfl, hq0⟩; obtain ⟨x10, x20, x30⟩ := qcell hq0; have hz0 : w.heap.size < w0.heap.size := (by have := hq0.size; (try simp at this); omega))
      | (go_at_call 16; refine (works_any _).mono ?_; rintro e w99 ⟨rfl, hq99⟩))
    go_ret
    exact ⟨rfl, by repeat (first | exact Q.refl _ | assumption | refine Q.alloc ?_ _ | refine Q.drew ?_ | refine Q.drewN ?_ _ | refine Q.setCell ?_ (by first | exact Nat.le_refl _ | (simp; done) | (simp at *; omega)) _ | refine Q.trans ?_ (by assumption))⟩
end Go.Proofs.Ytfhplhfgcanfbaa
