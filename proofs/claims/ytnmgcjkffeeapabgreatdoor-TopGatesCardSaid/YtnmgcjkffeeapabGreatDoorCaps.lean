/- The contracts of the caps. -/
import Derived.Test.YtnmgcjkffeeapabGreatDoorBase
namespace Go.Proofs.YtnmgcjkffeeapabGreatDoor
open Go.RowKit
set_option linter.unusedVariables false
set_option linter.unusedSimpArgs false
/-- what caps of one job know -/
structure Ca where
  all : Int
  most : Int
  runs : Int
/-- where caps lie -/
def CaAt (b : Nat) (x : Ca) (w : World) : Prop :=
  w.cell? ⟨b, 0, none⟩ = some (.bool true) ∧ w.cell? ⟨b, 1, none⟩ = some (.int .i64 x.all) ∧ w.cell? ⟨b, 2, none⟩ = some (.int .i64 1) ∧ w.cell? ⟨b, 3, none⟩ = some (.int .i64 x.most) ∧ w.cell? ⟨b, 67, none⟩ = some (.int .i64 x.runs) ∧ w.cell? ⟨b, 131, none⟩ = some (.int .i64 x.runs) ∧
  w.frozen? ⟨b, 67, none⟩ = false ∧ w.frozen? ⟨b, 131, none⟩ = false
theorem CaAt.lt {b : Nat} {x : Ca} {w : World} (h : CaAt b x w) : b < w.heap.size := lt_of_cell h.1
theorem CaAt.fr {b d : Nat} {x : Ca} {w w' : World} (h : CaAt b x w) (hf : Fr d w w') (hne : b ≠ d) : CaAt b x w' := by
  have hl := h.lt
  unfold CaAt
  simp only [hf.cell hl hne, hf.frozen hl hne]
  exact h
theorem CaAt.q {b : Nat} {x : Ca} {w w' : World} (h : CaAt b x w) (hq : Q w w') : CaAt b x w' := h.fr (d := w.heap.size) (Fr.ofQ hq) (by have := h.lt; omega)
def Ca.ok (x : Ca) : Prop := (0 ≤ x.all ∧ x.all ≤ 1000) ∧ (0 ≤ x.most ∧ x.most ≤ 1000) ∧ (0 ≤ x.runs ∧ x.runs ≤ 1000)
theorem ctotal_any (b : Nat) (x : Ca) (w : World) (h : CaAt b x w) : Calls Tryz.prog 9 #[.pointer (some ⟨b, 0, none⟩)] w fun e w' => e = .returned (.int .i64 x.runs) ∧ w = w' := by
  obtain ⟨h0, h1, h2, h3, h4, h5, f0, f1⟩ := h
  go_enter Tryz.func9, Tryz.ntmps9
  go_wp2
  go_ret
  exact ⟨rfl, rfl⟩
theorem used1_any (b p q : Nat) (x : Ca) (w : World) (h : CaAt b x w) (hp : w.cell? ⟨p, 0, none⟩ = some (.pointer (some ⟨b, 0, none⟩))) (hq : w.cell? ⟨q, 0, none⟩ = some (.int .i64 0)) :
    Calls Tryz.prog 28 #[.pointer (some ⟨p, 0, none⟩), .pointer (some ⟨q, 0, none⟩)] w fun e w' => e = .returned (.tuple #[.int .i64 x.runs, .int .i64 0]) ∧ Q w w' := by
  obtain ⟨h0, h1, h2, h3, h4, h5, f0, f1⟩ := h
  go_enter Tryz.func28, Tryz.ntmps28
  go_wp2
  go_quiet (fail)
  go_wp2
  go_ret2
  exact ⟨rfl, (Q.refl _).drewN _⟩
theorem of28_any (b p q : Nat) (x : Ca) (w : World) (h : CaAt b x w) (R : World → Prop) (v r : Int)
    (k : Calls Tryz.prog 28 #[.pointer (some ⟨p, 0, none⟩), .pointer (some ⟨q, 0, none⟩)] w fun e w' => e = .returned (.tuple #[.int .i64 v, .int .i64 r]) ∧ R w') :
    Calls Tryz.prog 27 #[.pointer (some ⟨b, 0, none⟩), .int .i64 0, .func (.func 28) #[] #[.pointer (some ⟨p, 0, none⟩), .pointer (some ⟨q, 0, none⟩)]] w fun e w' => e = .returned (.tuple #[.int .i64 v, .int .i64 r]) ∧ R w' := by
  obtain ⟨h0, h1, h2, h3, h4, h5, f0, f1⟩ := h
  go_enter Tryz.func27, Tryz.ntmps27
  go_wp2_with (go_at_call 28; refine k.mono ?_; rintro e w2 ⟨rfl, r2⟩)
  go_ret2
  exact ⟨rfl, r2⟩
theorem used_any (b : Nat) (x : Ca) (w : World) (h : CaAt b x w) :
    Calls Tryz.prog 11 #[.pointer (some ⟨b, 0, none⟩), .int .i64 0] w fun e w' => e = .returned (.tuple #[.int .i64 x.runs, .int .i64 0]) ∧ Q w w' := by
  have hlt := h.lt
  have HC := Lib.hid h
  have kk := fun p q w2 h2 hp hq => used1_any b p q x w2 h2 hp hq
  have ko := fun p q w2 h2 R v r k => of28_any b p q x w2 h2 R v r k
  clear h
  go_enter Tryz.func11, Tryz.ntmps11
  go_wp2_with (go_at_call 27; refine (ko _ _ _ ?_ _ _ _ (kk _ _ _ ?_ ?_ ?_)).mono ?_; (exact HC.out.q (((Q.refl _).alloc _).alloc _)); (exact HC.out.q (((Q.refl _).alloc _).alloc _)); (· go_simp); (· go_simp); rintro e w2 ⟨rfl, r2⟩)
  go_ret2
  exact ⟨rfl, (((Q.refl _).alloc _).alloc _).trans r2⟩
theorem of60_any (b p q : Nat) (x : Ca) (w : World) (h : CaAt b x w) (R : World → Prop) (v r : Int)
    (k : Calls Tryz.prog 60 #[.pointer (some ⟨p, 0, none⟩), .pointer (some ⟨q, 0, none⟩)] w fun e w' => e = .returned (.tuple #[.int .i64 v, .int .i64 r]) ∧ R w') :
    Calls Tryz.prog 27 #[.pointer (some ⟨b, 0, none⟩), .int .i64 0, .func (.func 60) #[] #[.pointer (some ⟨p, 0, none⟩), .pointer (some ⟨q, 0, none⟩)]] w fun e w' => e = .returned (.tuple #[.int .i64 v, .int .i64 r]) ∧ R w' := by
  obtain ⟨h0, h1, h2, h3, h4, h5, f0, f1⟩ := h
  go_enter Tryz.func27, Tryz.ntmps27
  go_wp2_with (go_at_call 60; refine k.mono ?_; rintro e w2 ⟨rfl, r2⟩)
  go_ret2
  exact ⟨rfl, r2⟩
theorem of37_any (b p q : Nat) (x : Ca) (w : World) (h : CaAt b x w) (R : World → Prop) (v r : Int)
    (k : Calls Tryz.prog 37 #[.pointer (some ⟨p, 0, none⟩), .pointer (some ⟨q, 0, none⟩)] w fun e w' => e = .returned (.tuple #[.int .i64 v, .int .i64 r]) ∧ R w') :
    Calls Tryz.prog 27 #[.pointer (some ⟨b, 0, none⟩), .int .i64 0, .func (.func 37) #[] #[.pointer (some ⟨p, 0, none⟩), .pointer (some ⟨q, 0, none⟩)]] w fun e w' => e = .returned (.tuple #[.int .i64 v, .int .i64 r]) ∧ R w' := by
  obtain ⟨h0, h1, h2, h3, h4, h5, f0, f1⟩ := h
  go_enter Tryz.func27, Tryz.ntmps27
  go_wp2_with (go_at_call 37; refine k.mono ?_; rintro e w2 ⟨rfl, r2⟩)
  go_ret2
  exact ⟨rfl, r2⟩
theorem of45_any (b p q : Nat) (x : Ca) (w : World) (h : CaAt b x w) (R : World → Prop) (v r : Int)
    (k : Calls Tryz.prog 45 #[.pointer (some ⟨p, 0, none⟩), .pointer (some ⟨q, 0, none⟩)] w fun e w' => e = .returned (.tuple #[.int .i64 v, .int .i64 r]) ∧ R w') :
    Calls Tryz.prog 27 #[.pointer (some ⟨b, 0, none⟩), .int .i64 0, .func (.func 45) #[] #[.pointer (some ⟨p, 0, none⟩), .pointer (some ⟨q, 0, none⟩)]] w fun e w' => e = .returned (.tuple #[.int .i64 v, .int .i64 r]) ∧ R w' := by
  obtain ⟨h0, h1, h2, h3, h4, h5, f0, f1⟩ := h
  go_enter Tryz.func27, Tryz.ntmps27
  go_wp2_with (go_at_call 45; refine k.mono ?_; rintro e w2 ⟨rfl, r2⟩)
  go_ret2
  exact ⟨rfl, r2⟩
theorem left1_any (b p q : Nat) (x : Ca) (w : World) (h : CaAt b x w) (ho : x.ok) (hp : w.cell? ⟨p, 0, none⟩ = some (.pointer (some ⟨b, 0, none⟩))) (hq : w.cell? ⟨q, 0, none⟩ = some (.int .i64 0)) :
    Calls Tryz.prog 60 #[.pointer (some ⟨p, 0, none⟩), .pointer (some ⟨q, 0, none⟩)] w fun e w' => e = .returned (.tuple #[.int .i64 (min (x.most - x.runs) (x.all - x.runs)), .int .i64 0]) ∧ Q w w' := by
  obtain ⟨al, mo, ru⟩ := x
  obtain ⟨h0, h1, h2, h3, h4, h5, f0, f1⟩ := h
  obtain ⟨⟨o1, o2⟩, ⟨o3, o4⟩, ⟨o5, o6⟩⟩ := ho
  dsimp only at h0 h1 h2 h3 h4 h5 o1 o2 o3 o4 o5 o6 ⊢
  have z1 : IntKind.i64.wrap (mo - ru) = mo - ru := IntWalk.i64_in _ (by omega)
  have z2 : IntKind.i64.wrap (al - ru) = al - ru := IntWalk.i64_in _ (by omega)
  rcases Int.lt_trichotomy mo al with c | c | c
  · have y1 : decide (mo - ru < al - ru) = true := by simp; omega
    have y2 : decide (al - ru < mo - ru) = false := by simp; omega
    have y3 : decide (mo - ru ≤ al - ru) = true := by simp; omega
    have y4 : decide (al - ru ≤ mo - ru) = false := by simp; omega
    rw [show min (mo - ru) (al - ru) = mo - ru by omega]
    have y5 : decide (mo ≤ al) = true := by simp; omega
    have y6 : mo ≤ al := by omega
    go_enter Tryz.func60, Tryz.ntmps60
    go_wp2
    go_quiet (fail)
    go_wp2
    go_ret2
    exact ⟨rfl, (Q.refl _).drewN _⟩
  · subst c
    have y1 : decide (mo - ru < mo - ru) = false := by simp
    have y3 : decide (mo - ru ≤ mo - ru) = true := by simp
    rw [show min (mo - ru) (mo - ru) = mo - ru by omega]
    go_enter Tryz.func60, Tryz.ntmps60
    go_wp2
    go_quiet (fail)
    go_wp2
    go_ret2
    exact ⟨rfl, (Q.refl _).drewN _⟩
  · have y1 : decide (mo - ru < al - ru) = false := by simp; omega
    have y2 : decide (al - ru < mo - ru) = true := by simp; omega
    have y3 : decide (mo - ru ≤ al - ru) = false := by simp; omega
    have y4 : decide (al - ru ≤ mo - ru) = true := by simp; omega
    rw [show min (mo - ru) (al - ru) = al - ru by omega]
    have y5 : decide (mo ≤ al) = false := by simp; omega
    have y6 : ¬ mo ≤ al := by omega
    go_enter Tryz.func60, Tryz.ntmps60
    go_wp2
    go_quiet (fail)
    go_wp2
    go_ret2
    exact ⟨rfl, (Q.refl _).drewN _⟩
theorem left_any (b : Nat) (x : Ca) (w : World) (h : CaAt b x w) (ho : x.ok) :
    Calls Tryz.prog 52 #[.pointer (some ⟨b, 0, none⟩), .int .i64 0] w fun e w' => e = .returned (.tuple #[.int .i64 (min (x.most - x.runs) (x.all - x.runs)), .int .i64 0]) ∧ Q w w' := by
  have hlt := h.lt
  have HC := Lib.hid h
  have kk := fun p q w2 h2 hp hq => left1_any b p q x w2 h2 ho hp hq
  have ko := fun p q w2 h2 R v r k => of60_any b p q x w2 h2 R v r k
  obtain ⟨m, hm⟩ : ∃ m, min (x.most - x.runs) (x.all - x.runs) = m := ⟨_, rfl⟩
  rw [hm] at kk ⊢
  clear h ho hm
  go_enter Tryz.func52, Tryz.ntmps52
  go_wp2_with (go_at_call 27; refine (ko _ _ _ ?_ _ _ _ (kk _ _ _ ?_ ?_ ?_)).mono ?_; (exact HC.out.q (((Q.refl _).alloc _).alloc _)); (exact HC.out.q (((Q.refl _).alloc _).alloc _)); (· go_simp); (· go_simp); rintro e w2 ⟨rfl, r2⟩)
  go_ret2
  exact ⟨rfl, (((Q.refl _).alloc _).alloc _).trans r2⟩
theorem free_yes (b : Nat) (x : Ca) (w : World) (h : CaAt b x w) (ho : x.ok) (hf : x.runs < x.most ∧ x.runs < x.all) :
    Calls Tryz.prog 38 #[.pointer (some ⟨b, 0, none⟩), .int .i64 0] w fun e w' => e = .returned (.bool true) ∧ Q w w' := by
  have kl := left_any b x w h ho
  obtain ⟨m, hm⟩ : ∃ m, min (x.most - x.runs) (x.all - x.runs) = m := ⟨_, rfl⟩
  have hm2 : 0 < m := by omega
  rw [hm] at kl
  have y1 : decide (0 < m) = true := by simp; omega
  clear hm hf ho h
  go_enter Tryz.func38, Tryz.ntmps38
  go_wp2_with (go_at_call 52; refine kl.mono ?_; rintro e w2 ⟨rfl, r2⟩)
  go_ret
  exact ⟨rfl, r2⟩
set_option maxRecDepth 100000 in
theorem ccount_any (b : Nat) (x : Ca) (d : Int) (w : World) (h : CaAt b x w) (ho : x.ok) (hd : -1 ≤ d ∧ d ≤ 1) :
    Calls Tryz.prog 39 #[.pointer (some ⟨b, 0, none⟩), .int .i64 0, .int .i64 d] w fun e w' => e = .returned (.tuple #[.int .i64 0, .int .i64 0]) ∧ CaAt b ⟨x.all, x.most, x.runs + d⟩ w' ∧ Fr b w w' := by
  obtain ⟨al, mo, ru⟩ := x
  obtain ⟨h0, h1, h2, h3, h4, h5, f0, f1⟩ := h
  obtain ⟨⟨o1, o2⟩, ⟨o3, o4⟩, ⟨o5, o6⟩⟩ := ho
  dsimp only at h0 h1 h2 h3 h4 h5 o1 o2 o3 o4 o5 o6 ⊢
  have z1 : IntKind.i64.wrap (ru + d) = ru + d := IntWalk.i64_in _ (by omega)
  go_enter Tryz.func39, Tryz.ntmps39
  go_wp2_with fail
  go_still_tail 11, (by kernel_rfl)
  go_wp2_with fail
  go_ret2
  refine ⟨rfl, ⟨?_, ?_, ?_, ?_, ?_, ?_, ?_, ?_⟩, ((((Fr.refl b w).setCell 67 _).drew).setCell 131 _)⟩
  all_goals go_simp
theorem take1_any (b p q : Nat) (x : Ca) (w : World) (h : CaAt b x w) (ho : x.ok) (hf : x.runs < x.most ∧ x.runs < x.all) (hp : w.cell? ⟨p, 0, none⟩ = some (.pointer (some ⟨b, 0, none⟩))) (hq : w.cell? ⟨q, 0, none⟩ = some (.int .i64 0)) (hpb : p ≠ b) (hqb : q ≠ b) :
    Calls Tryz.prog 37 #[.pointer (some ⟨p, 0, none⟩), .pointer (some ⟨q, 0, none⟩)] w fun e w' => e = .returned (.tuple #[.int .i64 0, .int .i64 0]) ∧ CaAt b ⟨x.all, x.most, x.runs + 1⟩ w' ∧ Fr b w w' := by
  have hlp := lt_of_cell hp
  have hlq := lt_of_cell hq
  dsimp only at hlp hlq
  have HC := Lib.hid h
  have kf := free_yes b x w h ho hf
  have kc := fun w2 h2 => ccount_any b x 1 w2 h2 ho (by omega)
  clear hf h
  go_enter Tryz.func37, Tryz.ntmps37
  go_wp2_with (first
    | (go_at_call 38; refine kf.mono ?_; rintro e w2 ⟨rfl, q2⟩; obtain ⟨x1, x2, x3⟩ := qcell q2)
    | (go_at_call 39; refine (kc _ (HC.out.q q2)).mono ?_; rintro e w3 ⟨rfl, h3, fr3⟩))
  go_ret2
  exact ⟨rfl, h3, (Fr.ofQ q2).trans fr3⟩
theorem ctake_ok (b : Nat) (x : Ca) (w : World) (h : CaAt b x w) (ho : x.ok) (hf : x.runs < x.most ∧ x.runs < x.all) :
    Calls Tryz.prog 15 #[.pointer (some ⟨b, 0, none⟩), .int .i64 0] w fun e w' => e = .returned (.int .i64 0) ∧ CaAt b ⟨x.all, x.most, x.runs + 1⟩ w' ∧ Fr b w w' := by
  have hlt := h.lt
  have HC := Lib.hid h
  have kk := fun p q w2 h2 hp hq hpb hqb => take1_any b p q x w2 h2 ho hf hp hq hpb hqb
  have ko := fun p q w2 h2 R v r k => of37_any b p q x w2 h2 R v r k
  clear h ho hf
  go_enter Tryz.func15, Tryz.ntmps15
  go_wp2_with (go_at_call 27; refine (ko _ _ _ ?_ _ _ _ (kk _ _ _ ?_ ?_ ?_ ?_ ?_)).mono ?_; (exact HC.out.q (((Q.refl _).alloc _).alloc _)); (exact HC.out.q (((Q.refl _).alloc _).alloc _)); (· go_simp); (· go_simp); (· omega); (· (try simp); omega); rintro e w2 ⟨rfl, h2, r2⟩)
  go_ret
  exact ⟨rfl, h2, (((Fr.refl b w).alloc _).alloc _).trans r2⟩
theorem give1_none (b p q : Nat) (x : Ca) (w : World) (h : CaAt b x w) (h0 : x.runs = 0) (hp : w.cell? ⟨p, 0, none⟩ = some (.pointer (some ⟨b, 0, none⟩))) (hq : w.cell? ⟨q, 0, none⟩ = some (.int .i64 0)) :
    Calls Tryz.prog 45 #[.pointer (some ⟨p, 0, none⟩), .pointer (some ⟨q, 0, none⟩)] w fun e w' => e = .returned (.tuple #[.int .i64 0, .int .i64 5]) ∧ Q w w' := by
  obtain ⟨al, mo, ru⟩ := x
  obtain ⟨c0, c1, c2, c3, c4, c5, f0, f1⟩ := h
  dsimp only at h0 c4 c5
  subst h0
  go_enter Tryz.func45, Tryz.ntmps45
  go_wp2
  go_quiet (fail)
  go_wp2
  go_ret2
  exact ⟨rfl, (Q.refl _).drewN _⟩
theorem give1_some (b p q : Nat) (x : Ca) (w : World) (h : CaAt b x w) (ho : x.ok) (hr : 0 < x.runs) (hp : w.cell? ⟨p, 0, none⟩ = some (.pointer (some ⟨b, 0, none⟩))) (hq : w.cell? ⟨q, 0, none⟩ = some (.int .i64 0)) (hpb : p ≠ b) (hqb : q ≠ b) :
    Calls Tryz.prog 45 #[.pointer (some ⟨p, 0, none⟩), .pointer (some ⟨q, 0, none⟩)] w fun e w' => e = .returned (.tuple #[.int .i64 0, .int .i64 0]) ∧ CaAt b ⟨x.all, x.most, x.runs + -1⟩ w' ∧ Fr b w w' := by
  have HC := Lib.hid h
  have kc := fun w2 h2 => ccount_any b x (-1) w2 h2 ho (by omega)
  obtain ⟨c0, c1, c2, c3, c4, c5, f0, f1⟩ := h
  have y1 : (x.runs == 0) = false := beq_f (by omega)
  clear hr
  go_enter Tryz.func45, Tryz.ntmps45
  go_wp2
  go_quiet (fail)
  go_wp2_with (go_at_call 39; refine (kc _ (HC.out.q ((Q.refl _).drewN _))).mono ?_; rintro e w3 ⟨rfl, h3, fr3⟩)
  go_ret2
  exact ⟨rfl, h3, ((Fr.refl b w).drewN _).trans fr3⟩
theorem cgive_none (b : Nat) (x : Ca) (w : World) (h : CaAt b x w) (h0 : x.runs = 0) :
    Calls Tryz.prog 20 #[.pointer (some ⟨b, 0, none⟩), .int .i64 0] w fun e w' => e = .returned (.int .i64 5) ∧ Q w w' := by
  have hlt := h.lt
  have HC := Lib.hid h
  have kk := fun p q w2 h2 hp hq => give1_none b p q x w2 h2 h0 hp hq
  have ko := fun p q w2 h2 R v r k => of45_any b p q x w2 h2 R v r k
  clear h h0
  go_enter Tryz.func20, Tryz.ntmps20
  go_wp2_with (go_at_call 27; refine (ko _ _ _ ?_ _ _ _ (kk _ _ _ ?_ ?_ ?_)).mono ?_; (exact HC.out.q (((Q.refl _).alloc _).alloc _)); (exact HC.out.q (((Q.refl _).alloc _).alloc _)); (· go_simp); (· go_simp); rintro e w2 ⟨rfl, r2⟩)
  go_ret
  exact ⟨rfl, (((Q.refl _).alloc _).alloc _).trans r2⟩
theorem cgive_some (b : Nat) (x : Ca) (w : World) (h : CaAt b x w) (ho : x.ok) (hr : 0 < x.runs) :
    Calls Tryz.prog 20 #[.pointer (some ⟨b, 0, none⟩), .int .i64 0] w fun e w' => e = .returned (.int .i64 0) ∧ CaAt b ⟨x.all, x.most, x.runs + -1⟩ w' ∧ Fr b w w' := by
  have hlt := h.lt
  have HC := Lib.hid h
  have kk := fun p q w2 h2 hp hq hpb hqb => give1_some b p q x w2 h2 ho hr hp hq hpb hqb
  have ko := fun p q w2 h2 R v r k => of45_any b p q x w2 h2 R v r k
  clear h ho hr
  go_enter Tryz.func20, Tryz.ntmps20
  go_wp2_with (go_at_call 27; refine (ko _ _ _ ?_ _ _ _ (kk _ _ _ ?_ ?_ ?_ ?_ ?_)).mono ?_; (exact HC.out.q (((Q.refl _).alloc _).alloc _)); (exact HC.out.q (((Q.refl _).alloc _).alloc _)); (· go_simp); (· go_simp); (· omega); (· (try simp); omega); rintro e w2 ⟨rfl, h2, r2⟩)
  go_ret
  exact ⟨rfl, h2, (((Fr.refl b w).alloc _).alloc _).trans r2⟩
end Go.Proofs.YtnmgcjkffeeapabGreatDoor
