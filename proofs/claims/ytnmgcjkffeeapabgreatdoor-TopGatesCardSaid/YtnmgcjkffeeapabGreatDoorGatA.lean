/- The gate: where it lies, and the contracts of its small functions. -/
import Derived.Test.YtnmgcjkffeeapabGreatDoorLim
import Derived.Test.YtnmgcjkffeeapabGreatDoorBox
import Derived.Test.YtnmgcjkffeeapabGreatDoorCaps
namespace Go.Proofs.YtnmgcjkffeeapabGreatDoor
open Go.RowKit
set_option linter.unusedVariables false
set_option linter.unusedSimpArgs false
/-- new blocks, draws, and the blocks S -/
def Fs (S : List Nat) (w w' : World) : Prop := w'.os = w.os ∧ w'.tape = w.tape ∧ w'.output = w.output ∧ w.heap.size ≤ w'.heap.size ∧ ∀ j, j < w.heap.size → j ∉ S → w'.heap[j]? = w.heap[j]?
theorem Fs.ofQ {S : List Nat} {w w' : World} (h : Q w w') : Fs S w w' := ⟨h.os, h.tape, h.output, h.size, fun j hj _ => h.block j hj⟩
theorem Fs.refl (S : List Nat) (w : World) : Fs S w w := Fs.ofQ (Q.refl w)
theorem Fs.ofFr {S : List Nat} {b : Nat} {w w' : World} (h : Fr b w w') (hb : b ∈ S) : Fs S w w' := ⟨h.1, h.2.1, h.2.2.1, h.2.2.2.1, fun j hj hn => h.2.2.2.2 j hj (fun e => hn (e ▸ hb))⟩
theorem Fs.trans {S : List Nat} {a b c : World} (h : Fs S a b) (k : Fs S b c) : Fs S a c := by
  obtain ⟨h1, h2, h3, h4, h5⟩ := h
  obtain ⟨k1, k2, k3, k4, k5⟩ := k
  exact ⟨k1.trans h1, k2.trans h2, k3.trans h3, by omega, fun j hj hb => (k5 j (by omega) hb).trans (h5 j hj hb)⟩
theorem Fs.thenQ {S : List Nat} {a b c : World} (h : Fs S a b) (k : Q b c) : Fs S a c := h.trans (Fs.ofQ k)
theorem Fs.size {S : List Nat} {w w' : World} (h : Fs S w w') : w.heap.size ≤ w'.heap.size := h.2.2.2.1
theorem Fs.mono {S T : List Nat} {w w' : World} (h : Fs S w w') (hs : ∀ b ∈ S, b ∈ T) : Fs T w w' := ⟨h.1, h.2.1, h.2.2.1, h.2.2.2.1, fun j hj hn => h.2.2.2.2 j hj (fun e => hn (hs j e))⟩
theorem Fs.cell {S : List Nat} {w w' : World} (h : Fs S w w') {j : Nat} (hj : j < w.heap.size) (hne : j ∉ S) (o : Nat) : w'.cell? ⟨j, o, none⟩ = w.cell? ⟨j, o, none⟩ := by
  have := h.2.2.2.2 j hj hne
  simp only [World.cell?, this]
theorem Fs.frozen {S : List Nat} {w w' : World} (h : Fs S w w') {j : Nat} (hj : j < w.heap.size) (hne : j ∉ S) (o : Nat) : w'.frozen? ⟨j, o, none⟩ = w.frozen? ⟨j, o, none⟩ := by
  have := h.2.2.2.2 j hj hne
  simp only [World.frozen?, this]
theorem LiAt.fs {b : Nat} {x : Li} {S : List Nat} {w w' : World} (h : LiAt b x w) (hf : Fs S w w') (hne : b ∉ S) : LiAt b x w' := by
  have hl := h.lt
  unfold LiAt
  simp only [hf.cell hl hne, hf.frozen hl hne]
  exact h
theorem BxAt.fs {b : Nat} {x : Bx} {S : List Nat} {w w' : World} (h : BxAt b x w) (hf : Fs S w w') (hne : b ∉ S) : BxAt b x w' := by
  have hl := h.lt
  unfold BxAt
  simp only [hf.cell hl hne, hf.frozen hl hne]
  exact h
theorem CaAt.fs {b : Nat} {x : Ca} {S : List Nat} {w w' : World} (h : CaAt b x w) (hf : Fs S w w') (hne : b ∉ S) : CaAt b x w' := by
  have hl := h.lt
  unfold CaAt
  simp only [hf.cell hl hne, hf.frozen hl hne]
  exact h
/-- where the parts of a gate lie: the gate, its caps, its limit, its doors, its caps' numbers, the job's limit, the job's breaker; the room of the two arrays -/
structure Pl where
  G : Nat
  C : Nat
  L : Nat
  D : Nat
  E : Nat
  M : Nat
  B : Nat
  dc : Nat
  ec : Nat
def Pl.all (p : Pl) : List Nat := [p.G, p.C, p.L, p.D, p.E, p.M, p.B]
/-- what a gate knows -/
structure Ga where
  last : Int
  ca : Ca
  la : Li
  lj : Li
  bx : Bx
structure GaAt (p : Pl) (x : Ga) (w : World) : Prop where
  g0 : w.cell? ⟨p.G, 0, none⟩ = some (.pointer (some ⟨p.C, 0, none⟩))
  g1 : w.cell? ⟨p.G, 1, none⟩ = some (.int .i64 x.ca.all)
  g2 : w.cell? ⟨p.G, 2, none⟩ = some (.pointer (some ⟨p.L, 0, none⟩))
  g3 : w.cell? ⟨p.G, 3, none⟩ = some (.slice (some ⟨p.D, 0, none⟩) 1 p.dc)
  g4 : w.cell? ⟨p.G, 4, none⟩ = some (.slice (some ⟨p.E, 0, none⟩) 1 p.ec)
  g5 : w.cell? ⟨p.G, 5, none⟩ = some (.int .i64 x.last)
  f5 : w.frozen? ⟨p.G, 5, none⟩ = false
  d0 : w.cell? ⟨p.D, 0, none⟩ = some (.pointer (some ⟨p.M, 0, none⟩))
  d1 : w.cell? ⟨p.D, 1, none⟩ = some (.pointer (some ⟨p.B, 0, none⟩))
  e0 : w.cell? ⟨p.E, 0, none⟩ = some (.int .i64 x.ca.most)
  c : CaAt p.C x.ca w
  l : LiAt p.L x.la w
  m : LiAt p.M x.lj w
  b : BxAt p.B x.bx w
  nd : p.all.Nodup
theorem GaAt.fs {p : Pl} {x : Ga} {S : List Nat} {w w' : World} (h : GaAt p x w) (hf : Fs S w w') (hn : ∀ b ∈ p.all, b ∉ S) : GaAt p x w' := by
  have hG := lt_of_cell h.g0
  have hD := lt_of_cell h.d0
  have hE := lt_of_cell h.e0
  dsimp only at hG hD hE
  have nG : p.G ∉ S := hn _ (by simp [Pl.all])
  have nD : p.D ∉ S := hn _ (by simp [Pl.all])
  have nE : p.E ∉ S := hn _ (by simp [Pl.all])
  exact ⟨(hf.cell hG nG 0).trans h.g0, (hf.cell hG nG 1).trans h.g1, (hf.cell hG nG 2).trans h.g2, (hf.cell hG nG 3).trans h.g3, (hf.cell hG nG 4).trans h.g4, (hf.cell hG nG 5).trans h.g5, (hf.frozen hG nG 5).trans h.f5, (hf.cell hD nD 0).trans h.d0, (hf.cell hD nD 1).trans h.d1, (hf.cell hE nE 0).trans h.e0, h.c.fs hf (hn _ (by simp [Pl.all])), h.l.fs hf (hn _ (by simp [Pl.all])), h.m.fs hf (hn _ (by simp [Pl.all])), h.b.fs hf (hn _ (by simp [Pl.all])), h.nd⟩
theorem GaAt.q {p : Pl} {x : Ga} {w w' : World} (h : GaAt p x w) (hq : Q w w') : GaAt p x w' := h.fs (S := []) (Fs.ofQ hq) (by simp)
theorem made_any (p : Pl) (x : Ga) (w : World) (h : GaAt p x w) : Calls Tryz.prog 59 #[.pointer (some ⟨p.G, 0, none⟩)] w fun e w' => e = .returned (.bool true) ∧ w = w' := by
  have g0 := h.g0
  clear h
  go_enter Tryz.func59, Tryz.ntmps59
  go_wp2
  go_ret
  exact ⟨rfl, rfl⟩
theorem has_any (p : Pl) (x : Ga) (now : Int) (w : World) (h : GaAt p x w) (hn : 0 ≤ now ∧ now ≤ 1000) : Calls Tryz.prog 51 #[.pointer (some ⟨p.G, 0, none⟩), .int .i64 0, .int .i64 now] w fun e w' => e = .returned (.int .i64 0) ∧ w = w' := by
  have km := made_any p x w h
  have g3 := h.g3
  have y1 : decide (now < 0) = false := by simp; omega
  have y2 : decide (253402300799 < now) = false := by simp; omega
  clear h
  go_enter Tryz.func51, Tryz.ntmps51
  go_wp2_with (go_at_call 59; (with_reducible refine km.mono ?_); rintro e w1 ⟨rfl, rfl⟩)
  go_ret
  exact ⟨rfl, rfl⟩
theorem call_any (p : Pl) (x : Ga) (now : Int) (w : World) (h : GaAt p x w) (hn : 0 ≤ now ∧ now ≤ 1000) (hl : x.last ≤ now) : Calls Tryz.prog 31 #[.pointer (some ⟨p.G, 0, none⟩), .int .i64 0, .int .i64 now] w fun e w' => e = .returned (.int .i64 0) ∧ w = w' := by
  have kh := has_any p x now w h hn
  have g5 := h.g5
  have y1 : decide (now < x.last) = false := by simp; omega
  clear h
  go_enter Tryz.func31, Tryz.ntmps31
  go_wp2_with (go_at_call 51; (with_reducible refine kh.mono ?_); rintro e w1 ⟨rfl, rfl⟩)
  go_ret
  exact ⟨rfl, rfl⟩
/-- the reasons -/
theorem why1_any (p : Pl) (x : Ga) (P : Nat) (w : World) (h : GaAt p x w) (hP : w.cell? ⟨P, 0, none⟩ = some (.pointer (some ⟨p.G, 0, none⟩))) : Calls Tryz.prog 32 #[.pointer (some ⟨P, 0, none⟩)] w fun e w' => e = .returned (.bool (decide (x.ca.all ≤ x.ca.runs))) ∧ Q w w' := by
  have kt := fun n => ctotal_any p.C x.ca (w.drewN n) (h.c.q ((Q.refl w).drewN n))
  have g0 := h.g0
  have g1 := h.g1
  clear h
  go_enter Tryz.func32, Tryz.ntmps32
  go_wp2_with fail
  go_quiet ((go_at_call 9; exact Calls.quiet_of_same ((kt _).mono fun _ _ h => ⟨h.1, h.2.symm⟩)))
  go_wp2_with fail
  go_ret
  exact ⟨rfl, by repeat (first | exact Q.refl _ | refine Q.drew ?_ | refine Q.drewN ?_ _)⟩
theorem why3_any (p : Pl) (x : Ga) (U P J : Nat) (w : World) (h : GaAt p x w) (hU : w.cell? ⟨U, 0, none⟩ = some (.int .i64 x.ca.runs)) (hP : w.cell? ⟨P, 0, none⟩ = some (.pointer (some ⟨p.G, 0, none⟩))) (hJ : w.cell? ⟨J, 0, none⟩ = some (.int .i64 0)) : Calls Tryz.prog 34 #[.pointer (some ⟨U, 0, none⟩), .pointer (some ⟨P, 0, none⟩), .pointer (some ⟨J, 0, none⟩)] w fun e w' => e = .returned (.bool (decide (x.ca.most ≤ x.ca.runs))) ∧ Q w w' := by
  have g4 := h.g4
  have e0 := h.e0
  clear h
  go_enter Tryz.func34, Tryz.ntmps34
  go_wp2_with fail
  go_quiet (fail)
  go_wp2_with fail
  go_ret
  exact ⟨rfl, by repeat (first | exact Q.refl _ | refine Q.drew ?_ | refine Q.drewN ?_ _)⟩
theorem why4_any (b : Nat) (x : Li) (n now : Int) (d t : Nat) (w : World) (h : LiAt b x w) (ho : x.ok n) (hn : 0 ≤ now ∧ now ≤ 1000) (hl : x.last ≤ now) (hd : w.cell? ⟨d, 0, none⟩ = some (.pointer (some ⟨b, 0, none⟩))) (ht : w.cell? ⟨t, 0, none⟩ = some (.int .i64 now)) : Calls Tryz.prog 35 #[.pointer (some ⟨d, 0, none⟩), .pointer (some ⟨t, 0, none⟩)] w fun e w' => e = .returned (.bool (x.early now)) ∧ Q w w' := by
  have k := lallows_any b x n now w h ho (by omega) hl
  clear h ho hn hl
  generalize x.early now = ee at *
  cases ee
  all_goals
    go_enter Tryz.func35, Tryz.ntmps35
    go_wp2_with (go_at_call 10; (with_reducible refine k.mono ?_); rintro e w1 ⟨rfl, q1⟩)
    go_ret
    exact ⟨rfl, q1⟩
theorem why5_any (b : Nat) (x : Bx) (n now : Int) (d t : Nat) (w : World) (h : BxAt b x w) (ho : x.ok n) (hd : w.cell? ⟨d, 1, none⟩ = some (.pointer (some ⟨b, 0, none⟩))) (ht : w.cell? ⟨t, 0, none⟩ = some (.int .i64 now)) : Calls Tryz.prog 36 #[.pointer (some ⟨d, 0, none⟩), .pointer (some ⟨t, 0, none⟩)] w fun e w' => e = .returned (.bool (!x.alw now)) ∧ Q w w' := by
  have k := ballows_any b x n now w h ho
  clear h ho
  generalize x.alw now = ee at *
  cases ee
  all_goals
    go_enter Tryz.func36, Tryz.ntmps36
    go_wp2_with (go_at_call 12; (with_reducible refine k.mono ?_); rintro e w1 ⟨rfl, q1⟩)
    go_ret
    exact ⟨rfl, q1⟩
set_option maxRecDepth 100000 in
theorem why2_any (b : Nat) (x : Li) (n now : Int) (G P t : Nat) (w : World) (h : LiAt b x w) (ho : x.ok n) (hn : 0 ≤ now ∧ now ≤ 1000) (hl : x.last ≤ now) (hg : w.cell? ⟨G, 2, none⟩ = some (.pointer (some ⟨b, 0, none⟩))) (hP : w.cell? ⟨P, 0, none⟩ = some (.pointer (some ⟨G, 0, none⟩))) (ht : w.cell? ⟨t, 0, none⟩ = some (.int .i64 now)) : Calls Tryz.prog 33 #[.pointer (some ⟨P, 0, none⟩), .pointer (some ⟨t, 0, none⟩)] w fun e w' => e = .returned (.bool (x.early now)) ∧ Q w w' := by
  have k := fun w2 (hq : Q w w2) => lallows_any b x n now w2 (h.q hq) ho (by omega) hl
  clear h ho hn hl
  generalize x.early now = ee at *
  cases ee
  all_goals
    go_enter Tryz.func33, Tryz.ntmps33
    go_wp2_with fail
    go_still_tail 5, (by kernel_rfl)
    go_wp2_with (go_at_call 10; (with_reducible refine (k _ ?_).mono ?_); (· repeat (first | exact Q.refl _ | refine Q.drew ?_ | refine Q.drewN ?_ _)); rintro e w1 ⟨rfl, q1⟩)
    go_ret
    exact ⟨rfl, Q.trans (by repeat (first | exact Q.refl _ | refine Q.drew ?_ | refine Q.drewN ?_ _)) q1⟩
end Go.Proofs.YtnmgcjkffeeapabGreatDoor
