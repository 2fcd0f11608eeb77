/- The contract of policy.Check. -/
import Derived.Test.YtnmgcjkffeeapabGreatDoorPolC
namespace Go.Proofs.YtnmgcjkffeeapabGreatDoor
open Go.RowKit
set_option linter.unusedVariables false
set_option linter.unusedSimpArgs false
def fieE (cap pri spl dea : Int) : Int := rl [inB cap 1 1000, inB pri 0 100, inB spl 0 68719476736, inB dea 0 68719476736]
def polE (cap pri spl dea mis kee T U F O N X B C J : Int) : Int := fsE [fieE cap pri spl dea, misE mis kee, limE T U, brE F O N, reE X B C J] 5
/-- the later fields of a policy in memory -/
def PC (b : Nat) (mis kee T U F O N X B C J : Int) (w : World) : Prop := w.cell? ⟨b, 4, none⟩ = some (.int .i64 mis) ∧ w.cell? ⟨b, 5, none⟩ = some (.int .i64 kee) ∧ w.cell? ⟨b, 6, none⟩ = some (.int .i64 T) ∧ w.cell? ⟨b, 7, none⟩ = some (.int .i64 U) ∧ w.cell? ⟨b, 8, none⟩ = some (.int .i64 F) ∧ w.cell? ⟨b, 9, none⟩ = some (.int .i64 O) ∧ w.cell? ⟨b, 10, none⟩ = some (.int .i64 N) ∧ w.cell? ⟨b, 11, none⟩ = some (.int .i64 X) ∧ w.cell? ⟨b, 12, none⟩ = some (.int .i64 B) ∧ w.cell? ⟨b, 13, none⟩ = some (.int .i64 C) ∧ w.cell? ⟨b, 14, none⟩ = some (.int .i64 J)
theorem PC.q {b : Nat} {mis kee T U F O N X B C J : Int} {w w' : World} (h : PC b mis kee T U F O N X B C J w) (q : Q w w') : PC b mis kee T U F O N X B C J w' := by
  have hl : b < w.heap.size := lt_of_cell h.1
  unfold PC
  obtain ⟨x1, x2, x3⟩ := qcell q
  rw [x1 b 4 hl, x1 b 5 hl, x1 b 6 hl, x1 b 7 hl, x1 b 8 hl, x1 b 9 hl, x1 b 10 hl, x1 b 11 hl, x1 b 12 hl, x1 b 13 hl, x1 b 14 hl]
  exact h
theorem rl_vals (l : List Bool) : rl l = 0 ∨ rl l = 16 := by unfold rl; split <;> simp
theorem misE_vals (k n : Int) : misE k n = 0 ∨ misE k n = 16 := by unfold misE; split <;> exact rl_vals _
theorem brE_vals (F O N : Int) : brE F O N = 0 ∨ brE F O N = 16 := by unfold brE; split; exact Or.inl rfl; exact rl_vals _
theorem reE_vals (X B C J : Int) : reE X B C J = 0 ∨ reE X B C J = 16 := by unfold reE; split; exact Or.inl rfl; exact rl_vals _
theorem nl5 (w : World) (a b c d e : Int) (t : TypeId) : NlAt w.heap.size [a, b, c, d, e] (w.alloc (.cells #[.int .i64 a, .int .i64 b, .int .i64 c, .int .i64 d, .int .i64 e] t)) := nl_new w _ rfl _ _ _ rfl
theorem nl5d (w : World) (a b c d e : Int) (t : TypeId) : NlAt w.heap.size [a, b, c, d, e] (w.alloc (.cells #[.int .i64 a, .int .i64 b, .int .i64 c, .int .i64 d, .int .i64 e] t)).drew := (nl5 w a b c d e t).q (Q.refl _).drew
theorem first5 (a b c d e : Int) (ha : a = 0 ∨ a = 16) (hb : b = 0 ∨ b = 16) (hc : c = 0 ∨ c = 16) (hd : d = 0 ∨ d = 16) (he : e = 0 ∨ e = 16) (g k : Nat) (w : World) (h : NlAt g [a, b, c, d, e] w) :
    Calls Tryz.prog 74 #[.slice (some ⟨g, 0, none⟩) 5 k] w fun r w' => r = .returned (.int .i64 (fsE [a, b, c, d, e] 5)) ∧ Q w w' :=
  first_any g k [a, b, c, d, e] 5 rfl (by decide) (fun j hj => by
    match j, hj with
    | 0, _ => exact ha
    | 1, _ => exact hb
    | 2, _ => exact hc
    | 3, _ => exact hd
    | 4, _ => exact he) w h
set_option maxRecDepth 100000 in
set_option maxHeartbeats 1000000 in
theorem pcheck_any (cap pri spl dea mis kee T U F O N X B C J : Int) (w : World) : Calls Tryz.prog 68 #[.agg #[.int .i64 cap, .int .i64 pri, .int .i64 spl, .int .i64 dea, .int .i64 mis, .int .i64 kee, .int .i64 T, .int .i64 U, .int .i64 F, .int .i64 O, .int .i64 N, .int .i64 X, .int .i64 B, .int .i64 C, .int .i64 J]] w fun e w' => e = .returned (.int .i64 (polE cap pri spl dea mis kee T U F O N X B C J)) ∧ Q w w' := by
  unfold polE
  have hf : fieE cap pri spl dea = 0 ∨ fieE cap pri spl dea = 16 := rl_vals _
  unfold fieE at hf ⊢
  have k0 := fun w2 => inint_any cap 1 1000 w2
  obtain ⟨b0, hb0⟩ : ∃ x, inB cap 1 1000 = x := ⟨_, rfl⟩
  rw [hb0] at k0 hf ⊢
  have k1 := fun w2 => inint_any pri 0 100 w2
  obtain ⟨b1, hb1⟩ : ∃ x, inB pri 0 100 = x := ⟨_, rfl⟩
  rw [hb1] at k1 hf ⊢
  have k2 := fun w2 => in64_any spl 0 68719476736 w2
  obtain ⟨b2, hb2⟩ : ∃ x, inB spl 0 68719476736 = x := ⟨_, rfl⟩
  rw [hb2] at k2 hf ⊢
  have k3 := fun w2 => in64_any dea 0 68719476736 w2
  obtain ⟨b3, hb3⟩ : ∃ x, inB dea 0 68719476736 = x := ⟨_, rfl⟩
  rw [hb3] at k3 hf ⊢
  clear hb0 hb1 hb2 hb3
  have kr := fun b c w2 h => rule_any b c [b0, b1, b2, b3] 4 rfl (by decide) w2 h
  obtain ⟨r0, hr0⟩ : ∃ x, rl [b0, b1, b2, b3] = x := ⟨_, rfl⟩
  rw [hr0] at kr hf ⊢
  clear hr0
  have kmi := fun w2 => cmis_any mis kee w2
  have vmi : misE mis kee = 0 ∨ misE mis kee = 16 := misE_vals mis kee
  obtain ⟨mi, hmi⟩ : ∃ x, misE mis kee = x := ⟨_, rfl⟩
  rw [hmi] at kmi vmi ⊢
  clear hmi
  have kli := fun w2 => clim_any T U w2
  have vli : limE T U = 0 ∨ limE T U = 16 := rl_vals _
  obtain ⟨li, hli⟩ : ∃ x, limE T U = x := ⟨_, rfl⟩
  rw [hli] at kli vli ⊢
  clear hli
  have kbr := fun w2 => cbrk_any F O N w2
  have vbr : brE F O N = 0 ∨ brE F O N = 16 := brE_vals F O N
  obtain ⟨br, hbr⟩ : ∃ x, brE F O N = x := ⟨_, rfl⟩
  rw [hbr] at kbr vbr ⊢
  clear hbr
  have kre := fun w2 => cret_any X B C J w2
  have vre : reE X B C J = 0 ∨ reE X B C J = 16 := reE_vals X B C J
  obtain ⟨re, hre⟩ : ∃ x, reE X B C J = x := ⟨_, rfl⟩
  rw [hre] at kre vre ⊢
  clear hre
  have k5 := fun g k w2 h => first5 r0 mi li br re hf vmi vli vbr vre g k w2 h
  have HV := Lib.hid (And.intro hf (And.intro vmi (And.intro vli (And.intro vbr vre))))
  clear hf vmi vli vbr vre
  go_enter Tryz.func68, Tryz.ntmps68
  go_wp2_with fail
  have c0 : (w.alloc (.cells #[.int .i64 cap, .int .i64 pri, .int .i64 spl, .int .i64 dea, .int .i64 mis, .int .i64 kee, .int .i64 T, .int .i64 U, .int .i64 F, .int .i64 O, .int .i64 N, .int .i64 X, .int .i64 B, .int .i64 C, .int .i64 J] 29)).cell? ⟨w.heap.size, 0, none⟩ = some (.int .i64 cap) := by go_simp
  have c1 : (w.alloc (.cells #[.int .i64 cap, .int .i64 pri, .int .i64 spl, .int .i64 dea, .int .i64 mis, .int .i64 kee, .int .i64 T, .int .i64 U, .int .i64 F, .int .i64 O, .int .i64 N, .int .i64 X, .int .i64 B, .int .i64 C, .int .i64 J] 29)).cell? ⟨w.heap.size, 1, none⟩ = some (.int .i64 pri) := by go_simp
  have c2 : (w.alloc (.cells #[.int .i64 cap, .int .i64 pri, .int .i64 spl, .int .i64 dea, .int .i64 mis, .int .i64 kee, .int .i64 T, .int .i64 U, .int .i64 F, .int .i64 O, .int .i64 N, .int .i64 X, .int .i64 B, .int .i64 C, .int .i64 J] 29)).cell? ⟨w.heap.size, 2, none⟩ = some (.int .i64 spl) := by go_simp
  have c3 : (w.alloc (.cells #[.int .i64 cap, .int .i64 pri, .int .i64 spl, .int .i64 dea, .int .i64 mis, .int .i64 kee, .int .i64 T, .int .i64 U, .int .i64 F, .int .i64 O, .int .i64 N, .int .i64 X, .int .i64 B, .int .i64 C, .int .i64 J] 29)).cell? ⟨w.heap.size, 3, none⟩ = some (.int .i64 dea) := by go_simp
  have c4 : (w.alloc (.cells #[.int .i64 cap, .int .i64 pri, .int .i64 spl, .int .i64 dea, .int .i64 mis, .int .i64 kee, .int .i64 T, .int .i64 U, .int .i64 F, .int .i64 O, .int .i64 N, .int .i64 X, .int .i64 B, .int .i64 C, .int .i64 J] 29)).cell? ⟨w.heap.size, 4, none⟩ = some (.int .i64 mis) := by go_simp
  have c5 : (w.alloc (.cells #[.int .i64 cap, .int .i64 pri, .int .i64 spl, .int .i64 dea, .int .i64 mis, .int .i64 kee, .int .i64 T, .int .i64 U, .int .i64 F, .int .i64 O, .int .i64 N, .int .i64 X, .int .i64 B, .int .i64 C, .int .i64 J] 29)).cell? ⟨w.heap.size, 5, none⟩ = some (.int .i64 kee) := by go_simp
  have c6 : (w.alloc (.cells #[.int .i64 cap, .int .i64 pri, .int .i64 spl, .int .i64 dea, .int .i64 mis, .int .i64 kee, .int .i64 T, .int .i64 U, .int .i64 F, .int .i64 O, .int .i64 N, .int .i64 X, .int .i64 B, .int .i64 C, .int .i64 J] 29)).cell? ⟨w.heap.size, 6, none⟩ = some (.int .i64 T) := by go_simp
  have c7 : (w.alloc (.cells #[.int .i64 cap, .int .i64 pri, .int .i64 spl, .int .i64 dea, .int .i64 mis, .int .i64 kee, .int .i64 T, .int .i64 U, .int .i64 F, .int .i64 O, .int .i64 N, .int .i64 X, .int .i64 B, .int .i64 C, .int .i64 J] 29)).cell? ⟨w.heap.size, 7, none⟩ = some (.int .i64 U) := by go_simp
  have c8 : (w.alloc (.cells #[.int .i64 cap, .int .i64 pri, .int .i64 spl, .int .i64 dea, .int .i64 mis, .int .i64 kee, .int .i64 T, .int .i64 U, .int .i64 F, .int .i64 O, .int .i64 N, .int .i64 X, .int .i64 B, .int .i64 C, .int .i64 J] 29)).cell? ⟨w.heap.size, 8, none⟩ = some (.int .i64 F) := by go_simp
  have c9 : (w.alloc (.cells #[.int .i64 cap, .int .i64 pri, .int .i64 spl, .int .i64 dea, .int .i64 mis, .int .i64 kee, .int .i64 T, .int .i64 U, .int .i64 F, .int .i64 O, .int .i64 N, .int .i64 X, .int .i64 B, .int .i64 C, .int .i64 J] 29)).cell? ⟨w.heap.size, 9, none⟩ = some (.int .i64 O) := by go_simp
  have c10 : (w.alloc (.cells #[.int .i64 cap, .int .i64 pri, .int .i64 spl, .int .i64 dea, .int .i64 mis, .int .i64 kee, .int .i64 T, .int .i64 U, .int .i64 F, .int .i64 O, .int .i64 N, .int .i64 X, .int .i64 B, .int .i64 C, .int .i64 J] 29)).cell? ⟨w.heap.size, 10, none⟩ = some (.int .i64 N) := by go_simp
  have c11 : (w.alloc (.cells #[.int .i64 cap, .int .i64 pri, .int .i64 spl, .int .i64 dea, .int .i64 mis, .int .i64 kee, .int .i64 T, .int .i64 U, .int .i64 F, .int .i64 O, .int .i64 N, .int .i64 X, .int .i64 B, .int .i64 C, .int .i64 J] 29)).cell? ⟨w.heap.size, 11, none⟩ = some (.int .i64 X) := by go_simp
  have c12 : (w.alloc (.cells #[.int .i64 cap, .int .i64 pri, .int .i64 spl, .int .i64 dea, .int .i64 mis, .int .i64 kee, .int .i64 T, .int .i64 U, .int .i64 F, .int .i64 O, .int .i64 N, .int .i64 X, .int .i64 B, .int .i64 C, .int .i64 J] 29)).cell? ⟨w.heap.size, 12, none⟩ = some (.int .i64 B) := by go_simp
  have c13 : (w.alloc (.cells #[.int .i64 cap, .int .i64 pri, .int .i64 spl, .int .i64 dea, .int .i64 mis, .int .i64 kee, .int .i64 T, .int .i64 U, .int .i64 F, .int .i64 O, .int .i64 N, .int .i64 X, .int .i64 B, .int .i64 C, .int .i64 J] 29)).cell? ⟨w.heap.size, 13, none⟩ = some (.int .i64 C) := by go_simp
  have c14 : (w.alloc (.cells #[.int .i64 cap, .int .i64 pri, .int .i64 spl, .int .i64 dea, .int .i64 mis, .int .i64 kee, .int .i64 T, .int .i64 U, .int .i64 F, .int .i64 O, .int .i64 N, .int .i64 X, .int .i64 B, .int .i64 C, .int .i64 J] 29)).cell? ⟨w.heap.size, 14, none⟩ = some (.int .i64 J) := by go_simp
  have q0 : Q w (w.alloc (.cells #[.int .i64 cap, .int .i64 pri, .int .i64 spl, .int .i64 dea, .int .i64 mis, .int .i64 kee, .int .i64 T, .int .i64 U, .int .i64 F, .int .i64 O, .int .i64 N, .int .i64 X, .int .i64 B, .int .i64 C, .int .i64 J] 29)) := (Q.refl w).alloc _
  have hB : w.heap.size < (w.alloc (.cells #[.int .i64 cap, .int .i64 pri, .int .i64 spl, .int .i64 dea, .int .i64 mis, .int .i64 kee, .int .i64 T, .int .i64 U, .int .i64 F, .int .i64 O, .int .i64 N, .int .i64 X, .int .i64 B, .int .i64 C, .int .i64 J] 29)).heap.size := by simp
  obtain ⟨G, hG⟩ : ∃ G, w.heap.size = G := ⟨_, rfl⟩
  generalize w.alloc (.cells #[.int .i64 cap, .int .i64 pri, .int .i64 spl, .int .i64 dea, .int .i64 mis, .int .i64 kee, .int .i64 T, .int .i64 U, .int .i64 F, .int .i64 O, .int .i64 N, .int .i64 X, .int .i64 B, .int .i64 C, .int .i64 J] 29) = W at *
  rw [hG] at *
  go_still_tail 12, (by kernel_rfl)
  still_call (still_of (k0 _))
  repeat still_step
  still_call (still_of (k1 _))
  repeat still_step
  still_call (still_of (k2 _))
  repeat still_step
  still_call (still_of (k3 _))
  repeat still_step
  change wpList _ _ _ _ _ W.drew
  have q1 : Q w W.drew := q0.drew
  have hpc : PC G mis kee T U F O N X B C J W.drew := ⟨c4, c5, c6, c7, c8, c9, c10, c11, c12, c13, c14⟩
  clear c0 c1 c2 c3 c4 c5 c6 c7 c8 c9 c10 c11 c12 c13 c14 k0 k1 k2 k3
  generalize W.drew = V at *
  go_wp2_with (go_at_call 70; refine (kr _ _ _ ?_).mono ?_; (exact bl_new _ _ (by simp) _ _ _ rfl); rintro e w2 ⟨rfl, q2⟩)
  have HPC := Lib.hid (hpc.q (((Q.refl V).alloc _).trans q2))
  obtain ⟨d4, d5, d6, d7, d8, d9, d10, d11, d12, d13, d14⟩ := HPC.out
  have hQ2 : Q w w2 := (q1.alloc _).trans q2
  clear hpc q1 q2 hG q0 kr
  go_region_held3 (fun w' => w'.cell? ⟨G, 4, none⟩ = some (.int .i64 mis) ∧ w'.cell? ⟨G, 5, none⟩ = some (.int .i64 kee) ∧ w'.cell? ⟨G, 6, none⟩ = some (.int .i64 T) ∧ w'.cell? ⟨G, 7, none⟩ = some (.int .i64 U) ∧ w'.cell? ⟨G, 8, none⟩ = some (.int .i64 F) ∧ w'.cell? ⟨G, 9, none⟩ = some (.int .i64 O) ∧ w'.cell? ⟨G, 10, none⟩ = some (.int .i64 N) ∧ w'.cell? ⟨G, 11, none⟩ = some (.int .i64 X) ∧ w'.cell? ⟨G, 12, none⟩ = some (.int .i64 B) ∧ w'.cell? ⟨G, 13, none⟩ = some (.int .i64 C) ∧ w'.cell? ⟨G, 14, none⟩ = some (.int .i64 J)) (go_keep) (first
    | (go_at_call 75; (with_reducible refine (kmi _).mono ?_); rintro e w3 ⟨rfl, w3q⟩; obtain ⟨w3c0, w3c1, w3c2, w3c3, w3c4, w3c5, w3c6, w3c7, w3c8, w3c9, w3c10⟩ := PC.q HPC.out (show Q w2 w3 from (by repeat (first | exact Q.refl _ | assumption | refine Q.alloc ?_ _ | refine Q.drew ?_ | refine Q.drewN ?_ _ | refine Q.trans ?_ (by assumption)))))
    | (go_at_call 62; (with_reducible refine (kli _).mono ?_); rintro e w4 ⟨rfl, w4q⟩; obtain ⟨w4c0, w4c1, w4c2, w4c3, w4c4, w4c5, w4c6, w4c7, w4c8, w4c9, w4c10⟩ := PC.q HPC.out (show Q w2 w4 from (by repeat (first | exact Q.refl _ | assumption | refine Q.alloc ?_ _ | refine Q.drew ?_ | refine Q.drewN ?_ _ | refine Q.trans ?_ (by assumption)))))
    | (go_at_call 76; (with_reducible refine (kbr _).mono ?_); rintro e w5 ⟨rfl, w5q⟩; obtain ⟨w5c0, w5c1, w5c2, w5c3, w5c4, w5c5, w5c6, w5c7, w5c8, w5c9, w5c10⟩ := PC.q HPC.out (show Q w2 w5 from (by repeat (first | exact Q.refl _ | assumption | refine Q.alloc ?_ _ | refine Q.drew ?_ | refine Q.drewN ?_ _ | refine Q.trans ?_ (by assumption)))))
    | (go_at_call 77; (with_reducible refine (kre _).mono ?_); rintro e w6 ⟨rfl, w6q⟩; obtain ⟨w6c0, w6c1, w6c2, w6c3, w6c4, w6c5, w6c6, w6c7, w6c8, w6c9, w6c10⟩ := PC.q HPC.out (show Q w2 w6 from (by repeat (first | exact Q.refl _ | assumption | refine Q.alloc ?_ _ | refine Q.drew ?_ | refine Q.drewN ?_ _ | refine Q.trans ?_ (by assumption)))))
    | (go_at_call 74; (with_reducible refine (k5 _ _ _ ?_).mono ?_); (first | exact nl5 _ _ _ _ _ _ _ | exact nl5d _ _ _ _ _ _ _); rintro e w7 ⟨rfl, w7q⟩; obtain ⟨w7c0, w7c1, w7c2, w7c3, w7c4, w7c5, w7c6, w7c7, w7c8, w7c9, w7c10⟩ := PC.q HPC.out (show Q w2 w7 from (by repeat (first | exact Q.refl _ | assumption | refine Q.alloc ?_ _ | refine Q.drew ?_ | refine Q.drewN ?_ _ | refine Q.trans ?_ (by assumption))))))
  go_wp2_with fail
  go_ret
  exact ⟨rfl, (by repeat (first | exact Q.refl _ | assumption | refine Q.alloc ?_ _ | refine Q.drew ?_ | refine Q.drewN ?_ _ | refine Q.trans ?_ (by assumption)))⟩
end Go.Proofs.YtnmgcjkffeeapabGreatDoor
