/- The contracts of the breaker. -/
import Derived.Test.YtnmgcjkffeeapabGreatDoorBase
namespace Go.Proofs.YtnmgcjkffeeapabGreatDoor
open Go.RowKit
set_option linter.unusedVariables false
set_option linter.unusedSimpArgs false
/-- what a breaker knows: its rule, whether and until when it is open, failures, successes and probes, the last time -/
structure Bx where
  F : Int
  O : Int
  N : Int
  op : Bool
  til : Int
  fails : Int
  good : Int
  under : Int
  last : Int
/-- where a breaker lies -/
def BxAt (b : Nat) (x : Bx) (w : World) : Prop :=
  w.cell? ⟨b, 0, none⟩ = some (.int .i64 x.F) ∧ w.cell? ⟨b, 1, none⟩ = some (.int .i64 x.O) ∧ w.cell? ⟨b, 2, none⟩ = some (.int .i64 x.N) ∧ w.cell? ⟨b, 3, none⟩ = some (.bool x.op) ∧ w.cell? ⟨b, 4, none⟩ = some (.int .i64 x.til) ∧ w.cell? ⟨b, 5, none⟩ = some (.int .i64 x.fails) ∧ w.cell? ⟨b, 6, none⟩ = some (.int .i64 x.good) ∧ w.cell? ⟨b, 7, none⟩ = some (.int .i64 x.under) ∧ w.cell? ⟨b, 8, none⟩ = some (.int .i64 x.last) ∧ w.cell? ⟨b, 9, none⟩ = some (.bool true) ∧
  w.frozen? ⟨b, 0, none⟩ = false ∧ w.frozen? ⟨b, 1, none⟩ = false ∧ w.frozen? ⟨b, 2, none⟩ = false ∧ w.frozen? ⟨b, 3, none⟩ = false ∧ w.frozen? ⟨b, 4, none⟩ = false ∧ w.frozen? ⟨b, 5, none⟩ = false ∧ w.frozen? ⟨b, 6, none⟩ = false ∧ w.frozen? ⟨b, 7, none⟩ = false ∧ w.frozen? ⟨b, 8, none⟩ = false ∧ w.frozen? ⟨b, 9, none⟩ = false
theorem BxAt.lt {b : Nat} {x : Bx} {w : World} (h : BxAt b x w) : b < w.heap.size := lt_of_cell h.1
theorem BxAt.fr {b d : Nat} {x : Bx} {w w' : World} (h : BxAt b x w) (hf : Fr d w w') (hne : b ≠ d) : BxAt b x w' := by
  have hl := h.lt
  unfold BxAt
  simp only [hf.cell hl hne, hf.frozen hl hne]
  exact h
theorem BxAt.q {b : Nat} {x : Bx} {w w' : World} (h : BxAt b x w) (hq : Q w w') : BxAt b x w' := h.fr (d := w.heap.size) (Fr.ofQ hq) (by have := h.lt; omega)
/-- a breaker within bounds -/
def Bx.ok (x : Bx) (n : Int) : Prop := (0 ≤ x.F ∧ x.F ≤ 100) ∧ (0 ≤ x.O ∧ x.O ≤ 68719476736) ∧ (0 ≤ x.N ∧ x.N ≤ 100) ∧ (0 ≤ x.til ∧ x.til ≤ 68719477736) ∧ (0 ≤ x.fails ∧ x.fails ≤ n) ∧ (0 ≤ x.good ∧ x.good ≤ n) ∧ (0 ≤ x.under ∧ x.under ≤ n) ∧ 0 ≤ x.last ∧ 0 ≤ n ∧ n ≤ 100
/-- its state at a time -/
def Bx.stt (x : Bx) (now : Int) : Int := if x.op then (if now < x.til then 1 else 2) else 0
/-- whether a launch is allowed -/
def Bx.alw (x : Bx) (now : Int) : Bool := if x.op then (if now < x.til then false else decide (x.good + x.under < x.N)) else true
def Bx.take (x : Bx) (now : Int) : Bx := ⟨x.F, x.O, x.N, x.op, x.til, x.fails, x.good, if x.stt now = 2 then x.under + 1 else x.under, now⟩
def Bx.start (x : Bx) (now : Int) : Bx := ⟨x.F, x.O, x.N, true, now + x.O, 0, 0, 0, x.last⟩
def Bx.stop (x : Bx) : Bx := ⟨x.F, x.O, x.N, false, 0, 0, 0, 0, x.last⟩
/-- an end of a run in each state -/
def Bx.clo (x : Bx) (ok : Bool) (now : Int) : Int × Bx := if ok then (0, ⟨x.F, x.O, x.N, x.op, x.til, 0, x.good, x.under, x.last⟩) else if x.fails + 1 < x.F then (0, ⟨x.F, x.O, x.N, x.op, x.til, x.fails + 1, x.good, x.under, x.last⟩) else (7, x.start now)
def Bx.hal (x : Bx) (ok : Bool) (now : Int) : Int × Bx := if ok then (if x.under = 0 then (0, x) else if x.good + 1 < x.N then (0, ⟨x.F, x.O, x.N, x.op, x.til, x.fails, x.good + 1, x.under - 1, x.last⟩) else (8, x.stop)) else (7, x.start now)
def Bx.seen (x : Bx) (now : Int) : Bx := ⟨x.F, x.O, x.N, x.op, x.til, x.fails, x.good, x.under, now⟩
/-- the end of a run: the event, and what is known behind it -/
def Bx.rep (x : Bx) (ok : Bool) (now : Int) : Int × Bx := if x.F = 0 then (0, x.seen now) else if x.op then (if now < x.til then (0, x.seen now) else (x.seen now).hal ok now) else (x.seen now).clo ok now
theorem bvalid_any (b : Nat) (x : Bx) (w : World) (h : BxAt b x w) : Calls Tryz.prog 29 #[.pointer (some ⟨b, 0, none⟩)] w fun e w' => e = .returned (.bool true) ∧ w = w' := by
  obtain ⟨F, O, N, op, til, fails, good, under, last⟩ := x
  obtain ⟨h0, h1, h2, h3, h4, h5, h6, h7, h8, h9, f0, f1, f2, f3, f4, f5, f6, f7, f8, f9⟩ := h
  dsimp only at h0 h1 h2 h3 h4 h5 h6 h7 h8
  go_enter Tryz.func29, Tryz.ntmps29
  go_wp2
  go_ret
  exact ⟨rfl, rfl⟩
theorem bstate_any (b : Nat) (x : Bx) (now : Int) (w : World) (h : BxAt b x w) : Calls Tryz.prog 30 #[.pointer (some ⟨b, 0, none⟩), .int .i64 now] w fun e w' => e = .returned (.int .i64 (x.stt now)) ∧ w = w' := by
  have kv := bvalid_any b x w h
  obtain ⟨F, O, N, op, til, fails, good, under, last⟩ := x
  obtain ⟨h0, h1, h2, h3, h4, h5, h6, h7, h8, h9, f0, f1, f2, f3, f4, f5, f6, f7, f8, f9⟩ := h
  dsimp only at h0 h1 h2 h3 h4 h5 h6 h7 h8
  unfold Bx.stt
  dsimp only
  cases op with
  | false =>
    go_enter Tryz.func30, Tryz.ntmps30
    go_wp2_with (go_at_call 29; refine kv.mono ?_; rintro e w1 ⟨rfl, rfl⟩)
    go_ret
    exact ⟨rfl, rfl⟩
  | true =>
    by_cases a : now < til
    · rw [if_pos rfl, if_pos a]
      go_enter Tryz.func30, Tryz.ntmps30
      go_wp2_with (go_at_call 29; refine kv.mono ?_; rintro e w1 ⟨rfl, rfl⟩)
      go_ret
      exact ⟨rfl, rfl⟩
    · rw [if_pos rfl, if_neg a]
      go_enter Tryz.func30, Tryz.ntmps30
      go_wp2_with (go_at_call 29; refine kv.mono ?_; rintro e w1 ⟨rfl, rfl⟩)
      go_ret
      exact ⟨rfl, rfl⟩
theorem ballows_any (b : Nat) (x : Bx) (n now : Int) (w : World) (h : BxAt b x w) (ho : x.ok n) : Calls Tryz.prog 12 #[.pointer (some ⟨b, 0, none⟩), .int .i64 now] w fun e w' => e = .returned (.bool (x.alw now)) ∧ Q w w' := by
  have kv := bvalid_any b x w h
  have ks := bstate_any b x now w h
  obtain ⟨F, O, N, op, til, fails, good, under, last⟩ := x
  obtain ⟨h0, h1, h2, h3, h4, h5, h6, h7, h8, h9, f0, f1, f2, f3, f4, f5, f6, f7, f8, f9⟩ := h
  dsimp only at h0 h1 h2 h3 h4 h5 h6 h7 h8
  obtain ⟨⟨o1, o2⟩, ⟨o3, o4⟩, ⟨o5, o6⟩, ⟨o7, o8⟩, ⟨o9, o10⟩, ⟨o11, o12⟩, ⟨o13, o14⟩, o15, o16, o17⟩ := ho
  dsimp only at o1 o2 o3 o4 o5 o6 o7 o8 o9 o10 o11 o12 o13 o14 o15
  unfold Bx.alw
  unfold Bx.stt at ks
  dsimp only at ks ⊢
  have o12' : good + under ≤ 200 := by omega
  have o12'' : 0 ≤ good + under := by omega
  have o12a : good ≤ 100 := by omega
  have o12b : under ≤ 100 := by omega
  clear o10 o12 o14 o16 o17
  cases op with
  | false =>
    rw [if_neg (by simp)] at ks
    go_enter Tryz.func12, Tryz.ntmps12
    go_wp2_with (first
      | (go_at_call 29; refine kv.mono ?_; rintro e w1 ⟨rfl, rfl⟩)
      | (go_at_call 30; refine ks.mono ?_; rintro e w1 ⟨rfl, rfl⟩))
    go_ret
    exact ⟨rfl, Q.refl _⟩
  | true =>
    rw [if_pos rfl] at ks
    by_cases a : now < til
    · rw [if_pos a] at ks
      rw [if_pos rfl, if_pos a]
      clear a
      go_enter Tryz.func12, Tryz.ntmps12
      go_wp2_with (first
        | (go_at_call 29; refine kv.mono ?_; rintro e w1 ⟨rfl, rfl⟩)
        | (go_at_call 30; refine ks.mono ?_; rintro e w1 ⟨rfl, rfl⟩))
      go_ret
      exact ⟨rfl, Q.refl _⟩
    · rw [if_neg a] at ks
      rw [if_pos rfl, if_neg a]
      clear a
      go_enter Tryz.func12, Tryz.ntmps12
      go_wp2_with (first
        | (go_at_call 29; refine kv.mono ?_; rintro e w1 ⟨rfl, rfl⟩)
        | (go_at_call 30; refine ks.mono ?_; rintro e w1 ⟨rfl, rfl⟩))
      go_quiet (fail)
      go_wp2_with fail
      go_ret
      exact ⟨rfl, (Q.refl _).drewN _⟩
theorem bcheck_any (b : Nat) (x : Bx) (now : Int) (w : World) (h : BxAt b x w) (hn : 0 ≤ now ∧ now ≤ 1000) (hl : x.last ≤ now) : Calls Tryz.prog 41 #[.pointer (some ⟨b, 0, none⟩), .int .i64 now] w fun e w' => e = .returned (.int .i64 0) ∧ w = w' := by
  have kv := bvalid_any b x w h
  obtain ⟨F, O, N, op, til, fails, good, under, last⟩ := x
  obtain ⟨h0, h1, h2, h3, h4, h5, h6, h7, h8, h9, f0, f1, f2, f3, f4, f5, f6, f7, f8, f9⟩ := h
  dsimp only at h0 h1 h2 h3 h4 h5 h6 h7 h8
  dsimp only at hl
  have y1 : decide (now < last) = false := by simp; omega
  go_enter Tryz.func41, Tryz.ntmps41
  go_wp2_with (go_at_call 29; refine kv.mono ?_; rintro e w1 ⟨rfl, rfl⟩)
  go_ret
  exact ⟨rfl, rfl⟩
theorem btake_ok (b : Nat) (x : Bx) (n now : Int) (w : World) (h : BxAt b x w) (ho : x.ok n) (hn : 0 ≤ now ∧ now ≤ 1000) (hl : x.last ≤ now) (ha : x.alw now = true) : Calls Tryz.prog 17 #[.pointer (some ⟨b, 0, none⟩), .int .i64 now] w fun e w' => e = .returned (.int .i64 0) ∧ BxAt b (x.take now) w' ∧ Fr b w w' := by
  have kc := fun w2 h2 => bcheck_any b x now w2 h2 hn hl
  have ks := fun w2 h2 => bstate_any b x now w2 h2
  have ka := fun w2 h2 => ballows_any b x n now w2 h2 ho
  rw [ha] at ka
  have HB := Lib.hid h
  have hlt := h.lt
  unfold Bx.take
  obtain ⟨s, hs⟩ : ∃ s, x.stt now = s := ⟨_, rfl⟩
  rw [hs] at ks ⊢
  have hs2 : s = 2 ∨ s ≠ 2 := by omega
  clear hs ha
  obtain ⟨F, O, N, op, til, fails, good, under, last⟩ := x
  obtain ⟨h0, h1, h2, h3, h4, h5, h6, h7, h8, h9, f0, f1, f2, f3, f4, f5, f6, f7, f8, f9⟩ := h
  dsimp only at h0 h1 h2 h3 h4 h5 h6 h7 h8
  obtain ⟨⟨o1, o2⟩, ⟨o3, o4⟩, ⟨o5, o6⟩, ⟨o7, o8⟩, ⟨o9, o10⟩, ⟨o11, o12⟩, ⟨o13, o14⟩, o15, o16, o17⟩ := ho
  dsimp only at o1 o2 o3 o4 o5 o6 o7 o8 o9 o10 o11 o12 o13 o14 o15
  have o14' : under ≤ 100 := by omega
  dsimp only
  clear o10 o12 o14 o16 o17
  rcases hs2 with rfl | hs2
  · rw [if_pos rfl]
    go_enter Tryz.func17, Tryz.ntmps17
    go_wp2_with (first
      | (go_at_call 41; refine (kc _ HB.out).mono ?_; rintro e w1 ⟨rfl, rfl⟩)
      | (go_at_call 12; refine (ka _ HB.out).mono ?_; rintro e w2 ⟨rfl, q2⟩; obtain ⟨x1, x2, x3⟩ := qcell q2)
      | (go_at_call 30; refine (ks _ (BxAt.q HB.out q2)).mono ?_; rintro e w3 ⟨rfl, rfl⟩))
    go_ret
    refine ⟨rfl, ⟨?_, ?_, ?_, ?_, ?_, ?_, ?_, ?_, ?_, ?_, ?_, ?_, ?_, ?_, ?_, ?_, ?_, ?_, ?_, ?_⟩, (((Fr.ofQ q2).setCell 7 _).setCell 8 _)⟩
    all_goals go_simp
  · rw [if_neg hs2]
    have y5 : (s == 2) = false := beq_f hs2
    clear hs2
    go_enter Tryz.func17, Tryz.ntmps17
    go_wp2_with (first
      | (go_at_call 41; refine (kc _ HB.out).mono ?_; rintro e w1 ⟨rfl, rfl⟩)
      | (go_at_call 12; refine (ka _ HB.out).mono ?_; rintro e w2 ⟨rfl, q2⟩; obtain ⟨x1, x2, x3⟩ := qcell q2)
      | (go_at_call 30; refine (ks _ (BxAt.q HB.out q2)).mono ?_; rintro e w3 ⟨rfl, rfl⟩))
    go_ret
    refine ⟨rfl, ⟨?_, ?_, ?_, ?_, ?_, ?_, ?_, ?_, ?_, ?_, ?_, ?_, ?_, ?_, ?_, ?_, ?_, ?_, ?_, ?_⟩, ((Fr.ofQ q2).setCell 8 _)⟩
    all_goals go_simp
set_option maxRecDepth 100000 in
theorem bstart_any (b : Nat) (x : Bx) (now : Int) (w : World) (h : BxAt b x w) (hO : 0 ≤ x.O ∧ x.O ≤ 68719476736) (hn : 0 ≤ now ∧ now ≤ 1000) : Calls Tryz.prog 53 #[.pointer (some ⟨b, 0, none⟩), .int .i64 now] w fun e w' => e = .returned (.int .i64 7) ∧ BxAt b (x.start now) w' ∧ Fr b w w' := by
  obtain ⟨F, O, N, op, til, fails, good, under, last⟩ := x
  obtain ⟨h0, h1, h2, h3, h4, h5, h6, h7, h8, h9, f0, f1, f2, f3, f4, f5, f6, f7, f8, f9⟩ := h
  dsimp only at h0 h1 h2 h3 h4 h5 h6 h7 h8
  dsimp only at hO
  unfold Bx.start
  dsimp only
  have z1 : IntKind.i64.wrap (now + O) = now + O := IntWalk.i64_in _ (by omega)
  go_enter Tryz.func53, Tryz.ntmps53
  go_wp2_with fail
  go_still_tail 18, (by kernel_rfl)
  go_wp2_with fail
  go_ret
  refine ⟨rfl, ⟨?_, ?_, ?_, ?_, ?_, ?_, ?_, ?_, ?_, ?_, ?_, ?_, ?_, ?_, ?_, ?_, ?_, ?_, ?_, ?_⟩, (((((((((((Fr.refl b w).setCell 0 _).setCell 1 _).setCell 2 _).setCell 3 _).setCell 4 _).setCell 5 _).setCell 6 _).setCell 7 _).setCell 8 _).setCell 9 _).drew⟩
  all_goals go_simp
set_option maxRecDepth 100000 in
theorem bstop_any (b : Nat) (x : Bx) (w : World) (h : BxAt b x w) : Calls Tryz.prog 54 #[.pointer (some ⟨b, 0, none⟩)] w fun e w' => e = .returned (.int .i64 8) ∧ BxAt b x.stop w' ∧ Fr b w w' := by
  obtain ⟨F, O, N, op, til, fails, good, under, last⟩ := x
  obtain ⟨h0, h1, h2, h3, h4, h5, h6, h7, h8, h9, f0, f1, f2, f3, f4, f5, f6, f7, f8, f9⟩ := h
  dsimp only at h0 h1 h2 h3 h4 h5 h6 h7 h8
  unfold Bx.stop
  dsimp only
  go_enter Tryz.func54, Tryz.ntmps54
  go_wp2_with fail
  go_still_tail 11, (by kernel_rfl)
  go_wp2_with fail
  go_ret
  refine ⟨rfl, ⟨?_, ?_, ?_, ?_, ?_, ?_, ?_, ?_, ?_, ?_, ?_, ?_, ?_, ?_, ?_, ?_, ?_, ?_, ?_, ?_⟩, (((((((((((Fr.refl b w).setCell 0 _).setCell 1 _).setCell 2 _).setCell 3 _).setCell 4 _).setCell 5 _).setCell 6 _).setCell 7 _).setCell 8 _).setCell 9 _).drew⟩
  all_goals go_simp
theorem bopened_any (b : Nat) (k : Bool) (now : Int) (w : World) : Calls Tryz.prog 43 #[.pointer (some ⟨b, 0, none⟩), .bool k, .int .i64 now] w fun e w' => e = .returned (.int .i64 0) ∧ w = w' := by
  go_enter Tryz.func43, Tryz.ntmps43
  go_wp2
  go_ret
  exact ⟨rfl, rfl⟩
theorem bclosed_any (b : Nat) (x : Bx) (k : Bool) (n now : Int) (w : World) (h : BxAt b x w) (ho : x.ok n) (hn : 0 ≤ now ∧ now ≤ 1000) : Calls Tryz.prog 42 #[.pointer (some ⟨b, 0, none⟩), .bool k, .int .i64 now] w fun e w' => e = .returned (.int .i64 (x.clo k now).1) ∧ BxAt b (x.clo k now).2 w' ∧ Fr b w w' := by
  have HB := Lib.hid h
  have HO := Lib.hid ho
  have hlt := h.lt
  obtain ⟨F, O, N, op, til, fails, good, under, last⟩ := x
  obtain ⟨h0, h1, h2, h3, h4, h5, h6, h7, h8, h9, f0, f1, f2, f3, f4, f5, f6, f7, f8, f9⟩ := h
  dsimp only at h0 h1 h2 h3 h4 h5 h6 h7 h8
  obtain ⟨⟨o1, o2⟩, ⟨o3, o4⟩, ⟨o5, o6⟩, ⟨o7, o8⟩, ⟨o9, o10⟩, ⟨o11, o12⟩, ⟨o13, o14⟩, o15, o16, o17⟩ := ho
  dsimp only at o1 o2 o3 o4 o5 o6 o7 o8 o9 o10 o11 o12 o13 o14 o15
  have o10' : fails ≤ 100 := by omega
  have z1 : IntKind.i64.wrap (fails + 1) = fails + 1 := IntWalk.i64_in _ (by omega)
  clear o10 o12 o14 o16 o17
  unfold Bx.clo
  dsimp only
  cases k with
  | true =>
    rw [if_pos rfl]
    go_enter Tryz.func42, Tryz.ntmps42
    go_wp2_with fail
    go_ret
    refine ⟨rfl, ⟨?_, ?_, ?_, ?_, ?_, ?_, ?_, ?_, ?_, ?_, ?_, ?_, ?_, ?_, ?_, ?_, ?_, ?_, ?_, ?_⟩, (Fr.refl b w).setCell 5 _⟩
    all_goals go_simp
  | false =>
    rw [if_neg (by simp)]
    by_cases a : fails + 1 < F
    · have y1 : decide (fails + 1 < F) = true := by simp; omega
      rw [if_pos a]
      clear a
      go_enter Tryz.func42, Tryz.ntmps42
      go_wp2_with fail
      go_quiet (fail)
      go_wp2_with fail
      go_ret
      refine ⟨rfl, ⟨?_, ?_, ?_, ?_, ?_, ?_, ?_, ?_, ?_, ?_, ?_, ?_, ?_, ?_, ?_, ?_, ?_, ?_, ?_, ?_⟩, ((Fr.refl b w).setCell 5 _).drewN _⟩
      all_goals go_simp
    · have y1 : decide (fails + 1 < F) = false := by simp; omega
      rw [if_neg a]
      clear a
      have kst := fun w2 h2 => bstart_any b ⟨F, O, N, op, til, fails + 1, good, under, last⟩ now w2 h2 ⟨o3, o4⟩ hn
      go_enter Tryz.func42, Tryz.ntmps42
      go_wp2_with fail
      go_quiet (fail)
      go_wp2_with (go_at_call 53; refine (kst _ ?_).mono ?_; (refine ⟨?_, ?_, ?_, ?_, ?_, ?_, ?_, ?_, ?_, ?_, ?_, ?_, ?_, ?_, ?_, ?_, ?_, ?_, ?_, ?_⟩ <;> go_simp); rintro e w2 ⟨rfl, h2, fr2⟩)
      go_ret
      exact ⟨rfl, h2, (((Fr.refl b w).setCell 5 _).drewN _).trans fr2⟩
set_option maxHeartbeats 1000000 in
theorem bhalf_any (b : Nat) (x : Bx) (k : Bool) (n now : Int) (w : World) (h : BxAt b x w) (ho : x.ok n) (hn : 0 ≤ now ∧ now ≤ 1000) : Calls Tryz.prog 44 #[.pointer (some ⟨b, 0, none⟩), .bool k, .int .i64 now] w fun e w' => e = .returned (.int .i64 (x.hal k now).1) ∧ BxAt b (x.hal k now).2 w' ∧ Fr b w w' := by
  have HB := Lib.hid h
  have HO := Lib.hid ho
  have hlt := h.lt
  obtain ⟨F, O, N, op, til, fails, good, under, last⟩ := x
  obtain ⟨h0, h1, h2, h3, h4, h5, h6, h7, h8, h9, f0, f1, f2, f3, f4, f5, f6, f7, f8, f9⟩ := h
  dsimp only at h0 h1 h2 h3 h4 h5 h6 h7 h8
  obtain ⟨⟨o1, o2⟩, ⟨o3, o4⟩, ⟨o5, o6⟩, ⟨o7, o8⟩, ⟨o9, o10⟩, ⟨o11, o12⟩, ⟨o13, o14⟩, o15, o16, o17⟩ := ho
  dsimp only at o1 o2 o3 o4 o5 o6 o7 o8 o9 o10 o11 o12 o13 o14 o15
  have o12' : good ≤ 100 := by omega
  have o14' : under ≤ 100 := by omega
  clear o10 o12 o14 o16 o17
  unfold Bx.hal
  dsimp only
  cases k with
  | false =>
    rw [if_neg (by simp)]
    have kst := fun w2 h2 => bstart_any b ⟨F, O, N, op, til, fails, good, under, last⟩ now w2 h2 ⟨o3, o4⟩ hn
    go_enter Tryz.func44, Tryz.ntmps44
    go_wp2_with (go_at_call 53; refine (kst _ HB.out).mono ?_; rintro e w2 ⟨rfl, h2, fr2⟩)
    go_ret
    exact ⟨rfl, h2, fr2⟩
  | true =>
    rw [if_pos rfl]
    by_cases u0 : under = 0
    · subst u0
      rw [if_pos rfl]
      go_enter Tryz.func44, Tryz.ntmps44
      go_wp2_with fail
      go_ret
      exact ⟨rfl, HB.out, Fr.refl _ _⟩
    · have y0 : (under == 0) = false := beq_f u0
      rw [if_neg u0]
      have u1 : 1 ≤ under := by omega
      clear u0
      have z1 : IntKind.i64.wrap (good + 1) = good + 1 := IntWalk.i64_in _ (by omega)
      by_cases a : good + 1 < N
      · have y1 : decide (good + 1 < N) = true := by simp; omega
        rw [if_pos a]
        clear a
        go_enter Tryz.func44, Tryz.ntmps44
        go_wp2_with fail
        go_quiet (fail)
        go_wp2_with fail
        go_ret
        refine ⟨rfl, ⟨?_, ?_, ?_, ?_, ?_, ?_, ?_, ?_, ?_, ?_, ?_, ?_, ?_, ?_, ?_, ?_, ?_, ?_, ?_, ?_⟩, (((Fr.refl b w).setCell 7 _).setCell 6 _).drewN _⟩
        all_goals go_simp
      · have y1 : decide (good + 1 < N) = false := by simp; omega
        rw [if_neg a]
        clear a
        have kst := fun w2 h2 => bstop_any b ⟨F, O, N, op, til, fails, good + 1, under - 1, last⟩ w2 h2
        go_enter Tryz.func44, Tryz.ntmps44
        go_wp2_with fail
        go_quiet (fail)
        go_wp2_with (go_at_call 54; refine (kst _ ?_).mono ?_; (refine ⟨?_, ?_, ?_, ?_, ?_, ?_, ?_, ?_, ?_, ?_, ?_, ?_, ?_, ?_, ?_, ?_, ?_, ?_, ?_, ?_⟩ <;> go_simp); rintro e w2 ⟨rfl, h2, fr2⟩)
        go_ret
        exact ⟨rfl, h2, ((((Fr.refl b w).setCell 7 _).setCell 6 _).drewN _).trans fr2⟩
theorem BxAt.set8 {b : Nat} {x : Bx} {w : World} (h : BxAt b x w) (now : Int) : BxAt b (x.seen now) (w.setCell ⟨b, 8, none⟩ (.int .i64 now)) := by
  obtain ⟨h0, h1, h2, h3, h4, h5, h6, h7, h8, h9, f0, f1, f2, f3, f4, f5, f6, f7, f8, f9⟩ := h
  unfold Bx.seen
  refine ⟨?_, ?_, ?_, ?_, ?_, ?_, ?_, ?_, ?_, ?_, ?_, ?_, ?_, ?_, ?_, ?_, ?_, ?_, ?_, ?_⟩
  all_goals go_simp
set_option maxHeartbeats 1000000 in
theorem breport_any (b : Nat) (x : Bx) (k : Bool) (n now : Int) (w : World) (h : BxAt b x w) (ho : x.ok n) (hn : 0 ≤ now ∧ now ≤ 1000) (hl : x.last ≤ now) : Calls Tryz.prog 19 #[.pointer (some ⟨b, 0, none⟩), .bool k, .int .i64 now] w fun e w' => e = .returned (.tuple #[.int .i64 (x.rep k now).1, .int .i64 0]) ∧ BxAt b (x.rep k now).2 w' ∧ Fr b w w' := by
  have kc := fun w2 h2 => bcheck_any b x now w2 h2 hn hl
  have HB := Lib.hid h
  have hlt := h.lt
  have hos : (x.seen now).ok n := by
    obtain ⟨a1, a2, a3, a4, a5, a6, a7, a8, a9⟩ := ho
    exact ⟨a1, a2, a3, a4, a5, a6, a7, hn.1, a9⟩
  have kcl := fun w2 h2 => bclosed_any b (x.seen now) k n now w2 h2 hos hn
  have kha := fun w2 h2 => bhalf_any b (x.seen now) k n now w2 h2 hos hn
  have kop := fun w2 => bopened_any b k now w2
  have kst := fun w2 h2 => bstate_any b (x.seen now) now w2 h2
  have hF := ho.1
  clear ho hl hos
  unfold Bx.rep
  have hse : x.seen now = ⟨x.F, x.O, x.N, x.op, x.til, x.fails, x.good, x.under, now⟩ := rfl
  have hsn : ∀ w2, BxAt b (x.seen now) w2 → BxAt b (x.seen now) w2 := fun _ h => h
  have HS := Lib.hid hse
  unfold Bx.stt at kst
  obtain ⟨h0, h1, h2, h3, h4, h5, h6, h7, h8, h9, f0, f1, f2, f3, f4, f5, f6, f7, f8, f9⟩ := h
  rw [show (x.seen now).op = x.op from rfl, show (x.seen now).til = x.til from rfl] at kst
  by_cases c0 : x.F = 0
  · rw [if_pos c0]
    have y0 : (x.F == 0) = true := beq_t c0
    clear c0 kcl kha kop kst hse hsn
    go_enter Tryz.func19, Tryz.ntmps19
    go_wp2_with (go_at_call 41; refine (kc _ HB.out).mono ?_; rintro e w1 ⟨rfl, rfl⟩)
    refine bodyPost_ret (v := .tuple #[.int .i64 0, .int .i64 0]) (by simp [results, Tryz.results19, go_sem]) rfl ?_
    rw [HS.out]
    refine ⟨rfl, ⟨?_, ?_, ?_, ?_, ?_, ?_, ?_, ?_, ?_, ?_, ?_, ?_, ?_, ?_, ?_, ?_, ?_, ?_, ?_, ?_⟩, (Fr.refl b w).setCell 8 _⟩
    all_goals go_simp
  · rw [if_neg c0]
    have y0 : (x.F == 0) = false := beq_f c0
    clear c0 hse hsn
    have h8s := BxAt.set8 HB.out now
    have HQ8 := Lib.hid h8s
    clear h8s
    cases hop : x.op with
    | false =>
      rw [hop] at kst h3
      rw [if_neg (by simp)] at kst ⊢
      clear hop kha kop
      go_enter Tryz.func19, Tryz.ntmps19
      go_wp2_with (first
        | (go_at_call 41; refine (kc _ HB.out).mono ?_; rintro e w1 ⟨rfl, rfl⟩)
        | (go_at_call 30; refine (kst _ (BxAt.q HQ8.out ((Q.refl _).alloc _))).mono ?_; rintro e w2 ⟨rfl, rfl⟩)
        | (go_at_call 42; refine (kcl _ (BxAt.q HQ8.out ((Q.refl _).alloc _))).mono ?_; rintro e w3 ⟨rfl, h3', fr3⟩))
      refine bodyPost_ret (v := .tuple #[.int .i64 ((x.seen now).clo k now).1, .int .i64 0]) (by simp [results, Tryz.results19, go_sem]) rfl ⟨rfl, h3', ?_⟩
      exact (((Fr.refl b w).setCell 8 _).alloc _).trans fr3
    | true =>
      rw [hop] at kst h3
      rw [if_pos rfl] at kst ⊢
      clear hop kcl
      by_cases a : now < x.til
      · rw [if_pos a] at kst ⊢
        clear a kha
        go_enter Tryz.func19, Tryz.ntmps19
        go_wp2_with (first
          | (go_at_call 41; refine (kc _ HB.out).mono ?_; rintro e w1 ⟨rfl, rfl⟩)
          | (go_at_call 30; refine (kst _ (BxAt.q HQ8.out ((Q.refl _).alloc _))).mono ?_; rintro e w2 ⟨rfl, rfl⟩)
          | (go_at_call 43; refine (kop _).mono ?_; rintro e w3 ⟨rfl, rfl⟩))
        refine bodyPost_ret (v := .tuple #[.int .i64 0, .int .i64 0]) (by simp [results, Tryz.results19, go_sem]) rfl ⟨rfl, BxAt.q HQ8.out ((Q.refl _).alloc _), ?_⟩
        exact ((Fr.refl b w).setCell 8 _).alloc _
      · rw [if_neg a] at kst ⊢
        clear a kop
        go_enter Tryz.func19, Tryz.ntmps19
        go_wp2_with (first
          | (go_at_call 41; refine (kc _ HB.out).mono ?_; rintro e w1 ⟨rfl, rfl⟩)
          | (go_at_call 30; refine (kst _ (BxAt.q HQ8.out ((Q.refl _).alloc _))).mono ?_; rintro e w2 ⟨rfl, rfl⟩)
          | (go_at_call 44; refine (kha _ (BxAt.q HQ8.out ((Q.refl _).alloc _))).mono ?_; rintro e w3 ⟨rfl, h3', fr3⟩))
        refine bodyPost_ret (v := .tuple #[.int .i64 ((x.seen now).hal k now).1, .int .i64 0]) (by simp [results, Tryz.results19, go_sem]) rfl ⟨rfl, h3', ?_⟩
        exact (((Fr.refl b w).setCell 8 _).alloc _).trans fr3
end Go.Proofs.YtnmgcjkffeeapabGreatDoor
