/- The contracts of the gate's Take and Give. -/
import Derived.Test.YtnmgcjkffeeapabGreatDoorGatB
namespace Go.Proofs.YtnmgcjkffeeapabGreatDoor
open Go.RowKit
set_option linter.unusedVariables false
set_option linter.unusedSimpArgs false
def Ga.tk1 (x : Ga) : Ga := ⟨x.last, ⟨x.ca.all, x.ca.most, x.ca.runs + 1⟩, x.la, x.lj, x.bx⟩
def Ga.tk2 (x : Ga) (now : Int) : Ga := ⟨x.last, x.ca, x.la.count now, x.lj, x.bx⟩
def Ga.tk3 (x : Ga) (now : Int) : Ga := ⟨x.last, x.ca, x.la, x.lj.count now, x.bx⟩
def Ga.tk4 (x : Ga) (now : Int) : Ga := ⟨x.last, x.ca, x.la, x.lj, x.bx.take now⟩
def Ga.at' (x : Ga) (now : Int) : Ga := ⟨now, x.ca, x.la, x.lj, x.bx⟩
def Ga.take (x : Ga) (now : Int) : Ga := ((((x.tk1.tk2 now).tk3 now).tk4 now).at' now)
def Ga.gv1 (x : Ga) : Ga := ⟨x.last, ⟨x.ca.all, x.ca.most, x.ca.runs + -1⟩, x.la, x.lj, x.bx⟩
def Ga.gv2 (x : Ga) (k : Bool) (now : Int) : Ga := ⟨x.last, x.ca, x.la, x.lj, (x.bx.rep k now).2⟩
/-- a gate, and the door that a call has read -/
structure TkAt (p : Pl) (x : Ga) (d : Nat) (w0 w : World) : Prop where
  g : GaAt p x w
  d0 : w.cell? ⟨d, 0, none⟩ = some (.pointer (some ⟨p.M, 0, none⟩))
  d1 : w.cell? ⟨d, 1, none⟩ = some (.pointer (some ⟨p.B, 0, none⟩))
  f : Fs p.all w0 w
  n : d ∉ p.all
theorem TkAt.q {p : Pl} {x : Ga} {d : Nat} {w0 w w' : World} (h : TkAt p x d w0 w) (q : Q w w') : TkAt p x d w0 w' :=
  ⟨h.g.q q, keepc q h.d0, keepc q h.d1, h.f.thenQ q, h.n⟩
theorem Pl.ne {p : Pl} (h : p.all.Nodup) : p.G ≠ p.C ∧ p.G ≠ p.L ∧ p.G ≠ p.D ∧ p.G ≠ p.E ∧ p.G ≠ p.M ∧ p.G ≠ p.B ∧ p.C ≠ p.L ∧ p.C ≠ p.D ∧ p.C ≠ p.E ∧ p.C ≠ p.M ∧ p.C ≠ p.B ∧ p.L ≠ p.D ∧ p.L ≠ p.E ∧ p.L ≠ p.M ∧ p.L ≠ p.B ∧ p.D ≠ p.E ∧ p.D ≠ p.M ∧ p.D ≠ p.B ∧ p.E ≠ p.M ∧ p.E ≠ p.B ∧ p.M ≠ p.B := by
  simp [Pl.all, not_or] at h
  simp only [and_assoc] at h
  exact h
/-- one part changes -/
theorem GaAt.frC {p : Pl} {x : Ga} {w w' : World} {ca : Ca} (h : GaAt p x w) (hf : Fr p.C w w') (hc : CaAt p.C ca w') (h1 : ca.all = x.ca.all) (h2 : ca.most = x.ca.most) : GaAt p ⟨x.last, ca, x.la, x.lj, x.bx⟩ w' := by
  obtain ⟨a1, a2, a3, a4, a5, a6, a7, a8, a9, a10, a11, a12, a13, a14, a15, a16, a17, a18, a19, a20, a21⟩ := Pl.ne h.nd
  have hG := lt_of_cell h.g0
  have hD := lt_of_cell h.d0
  have hE := lt_of_cell h.e0
  dsimp only at hG hD hE
  exact ⟨(hf.cell hG a1 0).trans h.g0, by rw [hf.cell hG a1 1, h.g1, h1], (hf.cell hG a1 2).trans h.g2, (hf.cell hG a1 3).trans h.g3, (hf.cell hG a1 4).trans h.g4, (hf.cell hG a1 5).trans h.g5, (hf.frozen hG a1 5).trans h.f5, (hf.cell hD (Ne.symm a8) 0).trans h.d0, (hf.cell hD (Ne.symm a8) 1).trans h.d1, by rw [hf.cell hE (Ne.symm a9) 0, h.e0, h2], hc, h.l.fr hf (Ne.symm a7), h.m.fr hf (Ne.symm a10), h.b.fr hf (Ne.symm a11), h.nd⟩
theorem GaAt.frL {p : Pl} {x : Ga} {w w' : World} {la : Li} (h : GaAt p x w) (hf : Fr p.L w w') (hc : LiAt p.L la w') : GaAt p ⟨x.last, x.ca, la, x.lj, x.bx⟩ w' := by
  obtain ⟨a1, a2, a3, a4, a5, a6, a7, a8, a9, a10, a11, a12, a13, a14, a15, a16, a17, a18, a19, a20, a21⟩ := Pl.ne h.nd
  have hG := lt_of_cell h.g0
  have hD := lt_of_cell h.d0
  have hE := lt_of_cell h.e0
  dsimp only at hG hD hE
  exact ⟨(hf.cell hG a2 0).trans h.g0, (hf.cell hG a2 1).trans h.g1, (hf.cell hG a2 2).trans h.g2, (hf.cell hG a2 3).trans h.g3, (hf.cell hG a2 4).trans h.g4, (hf.cell hG a2 5).trans h.g5, (hf.frozen hG a2 5).trans h.f5, (hf.cell hD (Ne.symm a12) 0).trans h.d0, (hf.cell hD (Ne.symm a12) 1).trans h.d1, (hf.cell hE (Ne.symm a13) 0).trans h.e0, h.c.fr hf a7, hc, h.m.fr hf (Ne.symm a14), h.b.fr hf (Ne.symm a15), h.nd⟩
theorem GaAt.frM {p : Pl} {x : Ga} {w w' : World} {la : Li} (h : GaAt p x w) (hf : Fr p.M w w') (hc : LiAt p.M la w') : GaAt p ⟨x.last, x.ca, x.la, la, x.bx⟩ w' := by
  obtain ⟨a1, a2, a3, a4, a5, a6, a7, a8, a9, a10, a11, a12, a13, a14, a15, a16, a17, a18, a19, a20, a21⟩ := Pl.ne h.nd
  have hG := lt_of_cell h.g0
  have hD := lt_of_cell h.d0
  have hE := lt_of_cell h.e0
  dsimp only at hG hD hE
  exact ⟨(hf.cell hG a5 0).trans h.g0, (hf.cell hG a5 1).trans h.g1, (hf.cell hG a5 2).trans h.g2, (hf.cell hG a5 3).trans h.g3, (hf.cell hG a5 4).trans h.g4, (hf.cell hG a5 5).trans h.g5, (hf.frozen hG a5 5).trans h.f5, (hf.cell hD a17 0).trans h.d0, (hf.cell hD a17 1).trans h.d1, (hf.cell hE a19 0).trans h.e0, h.c.fr hf a10, h.l.fr hf a14, hc, h.b.fr hf (Ne.symm a21), h.nd⟩
theorem GaAt.frB {p : Pl} {x : Ga} {w w' : World} {b : Bx} (h : GaAt p x w) (hf : Fr p.B w w') (hc : BxAt p.B b w') : GaAt p ⟨x.last, x.ca, x.la, x.lj, b⟩ w' := by
  obtain ⟨a1, a2, a3, a4, a5, a6, a7, a8, a9, a10, a11, a12, a13, a14, a15, a16, a17, a18, a19, a20, a21⟩ := Pl.ne h.nd
  have hG := lt_of_cell h.g0
  have hD := lt_of_cell h.d0
  have hE := lt_of_cell h.e0
  dsimp only at hG hD hE
  exact ⟨(hf.cell hG a6 0).trans h.g0, (hf.cell hG a6 1).trans h.g1, (hf.cell hG a6 2).trans h.g2, (hf.cell hG a6 3).trans h.g3, (hf.cell hG a6 4).trans h.g4, (hf.cell hG a6 5).trans h.g5, (hf.frozen hG a6 5).trans h.f5, (hf.cell hD a18 0).trans h.d0, (hf.cell hD a18 1).trans h.d1, (hf.cell hE a20 0).trans h.e0, h.c.fr hf a11, h.l.fr hf a15, h.m.fr hf a21, hc, h.nd⟩
theorem GaAt.frG {p : Pl} {x : Ga} {w : World} (now : Int) (h : GaAt p x w) : GaAt p (x.at' now) (w.setCell ⟨p.G, 5, none⟩ (.int .i64 now)) := by
  obtain ⟨a1, a2, a3, a4, a5, a6, a7, a8, a9, a10, a11, a12, a13, a14, a15, a16, a17, a18, a19, a20, a21⟩ := Pl.ne h.nd
  have hf := (Fr.refl p.G w).setCell 5 (.int .i64 now)
  have hD := lt_of_cell h.d0
  have hE := lt_of_cell h.e0
  dsimp only at hD hE
  have o (k : Nat) (hk : k ≠ 5) : (w.setCell ⟨p.G, 5, none⟩ (.int .i64 now)).cell? ⟨p.G, k, none⟩ = w.cell? ⟨p.G, k, none⟩ := World.cell?_setCell_other _ _ _ _ (by simp <;> omega)
  exact ⟨(o 0 (by omega)).trans h.g0, (o 1 (by omega)).trans h.g1, (o 2 (by omega)).trans h.g2, (o 3 (by omega)).trans h.g3, (o 4 (by omega)).trans h.g4, World.cell?_setCell_same _ _ _ h.g5, by rw [World.frozen?_setCell]; exact h.f5, (hf.cell hD (Ne.symm a3) 0).trans h.d0, (hf.cell hD (Ne.symm a3) 1).trans h.d1, (hf.cell hE (Ne.symm a4) 0).trans h.e0, h.c.fr hf (Ne.symm a1), h.l.fr hf (Ne.symm a2), h.m.fr hf (Ne.symm a5), h.b.fr hf (Ne.symm a6), h.nd⟩
theorem TkAt.mk' {p : Pl} {x y : Ga} {d b : Nat} {w0 w w' : World} (h : TkAt p x d w0 w) (hg : GaAt p y w') (hf : Fr b w w') (hb : b ∈ p.all) : TkAt p y d w0 w' := by
  have hd := lt_of_cell h.d0
  dsimp only at hd
  have hn : d ≠ b := fun e => h.n (e ▸ hb)
  exact ⟨hg, (hf.cell hd hn 0).trans h.d0, (hf.cell hd hn 1).trans h.d1, h.f.trans (Fs.ofFr hf hb), h.n⟩
theorem t15 {p : Pl} {x : Ga} {d : Nat} {w0 w : World} (h : TkAt p x d w0 w) (ho : x.ca.ok) (hf : x.ca.runs < x.ca.most ∧ x.ca.runs < x.ca.all) : Calls Tryz.prog 15 #[.pointer (some ⟨p.C, 0, none⟩), .int .i64 0] w fun e w' => e = .returned (.int .i64 0) ∧ TkAt p x.tk1 d w0 w' :=
  (ctake_ok p.C x.ca w h.g.c ho hf).mono fun e w' ⟨he, hc, hfr⟩ => ⟨he, h.mk' (h.g.frC hfr hc rfl rfl) hfr (by simp [Pl.all])⟩
theorem t16L {p : Pl} {x : Ga} {d : Nat} {w0 w : World} (n now : Int) (h : TkAt p x d w0 w) (ho : x.la.ok n) (hn : 0 ≤ now ∧ now ≤ 1000) (hl : x.la.last ≤ now) (he : x.la.early now = false) : Calls Tryz.prog 16 #[.pointer (some ⟨p.L, 0, none⟩), .int .i64 now] w fun e w' => e = .returned (.int .i64 0) ∧ TkAt p (x.tk2 now) d w0 w' :=
  (ltake_ok p.L x.la n now w h.g.l ho hn hl he).mono fun e w' ⟨he, hc, hfr⟩ => ⟨he, h.mk' (h.g.frL hfr hc) hfr (by simp [Pl.all])⟩
theorem t16M {p : Pl} {x : Ga} {d : Nat} {w0 w : World} (n now : Int) (h : TkAt p x d w0 w) (ho : x.lj.ok n) (hn : 0 ≤ now ∧ now ≤ 1000) (hl : x.lj.last ≤ now) (he : x.lj.early now = false) : Calls Tryz.prog 16 #[.pointer (some ⟨p.M, 0, none⟩), .int .i64 now] w fun e w' => e = .returned (.int .i64 0) ∧ TkAt p (x.tk3 now) d w0 w' :=
  (ltake_ok p.M x.lj n now w h.g.m ho hn hl he).mono fun e w' ⟨he, hc, hfr⟩ => ⟨he, h.mk' (h.g.frM hfr hc) hfr (by simp [Pl.all])⟩
theorem t17B {p : Pl} {x : Ga} {d : Nat} {w0 w : World} (n now : Int) (h : TkAt p x d w0 w) (ho : x.bx.ok n) (hn : 0 ≤ now ∧ now ≤ 1000) (hl : x.bx.last ≤ now) (he : x.bx.alw now = true) : Calls Tryz.prog 17 #[.pointer (some ⟨p.B, 0, none⟩), .int .i64 now] w fun e w' => e = .returned (.int .i64 0) ∧ TkAt p (x.tk4 now) d w0 w' :=
  (btake_ok p.B x.bx n now w h.g.b ho hn hl he).mono fun e w' ⟨he, hc, hfr⟩ => ⟨he, h.mk' (h.g.frB hfr hc) hfr (by simp [Pl.all])⟩
theorem acc_zero {f : Nat → Bool} (h : acc f 5 = 0) : f 0 = false ∧ f 1 = false ∧ f 2 = false ∧ f 3 = false ∧ f 4 = false := by
  simp only [acc] at h
  refine ⟨?_, ?_, ?_, ?_, ?_⟩
  all_goals
    cases h0 : f 0 <;> cases h1 : f 1 <;> cases h2 : f 2 <;> cases h3 : f 3 <;> cases h4 : f 4 <;> simp [h0, h1, h2, h3, h4] at h ⊢
theorem gtake_no (p : Pl) (x : Ga) (n now : Int) (w : World) (h : GaAt p x w) (ho : GaOk x n now) (ha : acc (rz x now) 5 ≠ 0) :
    Calls Tryz.prog 14 #[.pointer (some ⟨p.G, 0, none⟩), .int .i64 0, .int .i64 now] w fun e w' => e = .returned (.int .i64 9) ∧ Q w w' := by
  have kw := why_any p x n now w h ho
  obtain ⟨a, hac⟩ : ∃ a, acc (rz x now) 5 = a := ⟨_, rfl⟩
  rw [hac] at kw ha
  have y1 : (a == 0) = false := beq_f ha
  have y2 : (a != 0) = true := bne_t ha
  clear hac ha h ho
  go_enter Tryz.func14, Tryz.ntmps14
  go_wp2_with (go_at_call 13; (with_reducible refine kw.mono ?_); rintro e w1 ⟨rfl, q1⟩)
  go_ret
  exact ⟨rfl, q1⟩
theorem cell2_0 (w : World) (v0 v1 : Value) (t : TypeId) : (w.alloc (.cells #[v0, v1] t)).cell? ⟨w.heap.size, 0, none⟩ = some v0 := by
  rw [World.cell?]; simp only [heap_alloc_new]; rfl
theorem cell2_1 (w : World) (v0 v1 : Value) (t : TypeId) : (w.alloc (.cells #[v0, v1] t)).cell? ⟨w.heap.size, 1, none⟩ = some v1 := by
  rw [World.cell?]; simp only [heap_alloc_new]; rfl
theorem GaAt.lt' {p : Pl} {x : Ga} {w : World} (h : GaAt p x w) : ∀ b ∈ p.all, b < w.heap.size := by
  have hG := lt_of_cell h.g0
  have hD := lt_of_cell h.d0
  have hE := lt_of_cell h.e0
  have hC := h.c.lt
  have hL := h.l.lt
  have hM := h.m.lt
  have hB := h.b.lt
  dsimp only at hG hD hE
  intro b hb
  simp [Pl.all] at hb
  omega
theorem tkat_new {p : Pl} {x : Ga} {w w1 : World} (h : GaAt p x w) (q1 : Q w w1) : TkAt p x w1.heap.size w (w1.alloc (.cells #[.pointer (some ⟨p.M, 0, none⟩), .pointer (some ⟨p.B, 0, none⟩)] 79)) :=
  ⟨h.q (q1.alloc _), cell2_0 _ _ _ _, cell2_1 _ _ _ _, Fs.ofQ (q1.alloc _), fun hn => by have := (h.q q1).lt' _ hn; omega⟩
set_option maxRecDepth 100000 in
set_option maxHeartbeats 4000000 in
theorem gtake_yes (p : Pl) (x : Ga) (n now : Int) (w : World) (h : GaAt p x w) (ho : GaOk x n now) (ha : acc (rz x now) 5 = 0) :
    Calls Tryz.prog 14 #[.pointer (some ⟨p.G, 0, none⟩), .int .i64 0, .int .i64 now] w fun e w' => e = .returned (.int .i64 0) ∧ GaAt p (x.take now) w' ∧ Fs p.all w w' := by
  have kw := why_any p x n now w h ho
  rw [ha] at kw
  obtain ⟨r0, r1, r2, r3, r4⟩ := acc_zero ha
  simp [rz] at r0 r1 r2 r3 r4
  have H := Lib.hid h
  have HO := Lib.hid ho
  clear ha h ho
  go_enter Tryz.func14, Tryz.ntmps14
  have g3 := H.out.g3
  have g0 := H.out.g0
  have d0 := H.out.d0
  have d1 := H.out.d1
  have R0 := Lib.hid r0
  have R1 := Lib.hid r1
  have R2 := Lib.hid r2
  have R3 := Lib.hid r3
  have R4 := Lib.hid r4
  clear r0 r1 r2 r3 r4
  go_wp2_with (go_at_call 13; (with_reducible refine kw.mono ?_); rintro e w1 ⟨rfl, q1⟩; have g3' := keepc q1 g3; have d0' := keepc q1 d0; have d1' := keepc q1 d1)
  have HT := tkat_new H.out q1
  generalize w1.alloc (.cells #[.pointer (some ⟨p.M, 0, none⟩), .pointer (some ⟨p.B, 0, none⟩)] 79) = V at *
  generalize w1.heap.size = d at *
  have kA := fun w2 (h : TkAt p x d w w2) => t15 h HO.out.ca ⟨R2.out, R0.out⟩
  have kB := fun w2 (h : TkAt p x.tk1 d w w2) => t16L n now h HO.out.la HO.out.hn HO.out.l1 R1.out
  have kC := fun w2 (h : TkAt p (x.tk1.tk2 now) d w w2) => t16M n now h HO.out.lj HO.out.hn HO.out.l2 R3.out
  have kD := fun w2 (h : TkAt p ((x.tk1.tk2 now).tk3 now) d w w2) => t17B n now h HO.out.bx HO.out.hn HO.out.l3 R4.out
  clear g3 d0 d1 g3' d0' d1' g0 kw q1
  have v0 := HT.g.g0
  have v1 := HT.g.g2
  have v2 := HT.d0
  have v3 := HT.d1
  go_region_held3 (fun w' => w'.cell? ⟨p.G, 0, none⟩ = some (.pointer (some ⟨p.C, 0, none⟩)) ∧ w'.cell? ⟨p.G, 2, none⟩ = some (.pointer (some ⟨p.L, 0, none⟩)) ∧ w'.cell? ⟨d, 0, none⟩ = some (.pointer (some ⟨p.M, 0, none⟩)) ∧ w'.cell? ⟨d, 1, none⟩ = some (.pointer (some ⟨p.B, 0, none⟩))) (go_keep) (first
    | (go_at_call 15; (with_reducible refine (kA _ ?_).mono ?_); (· refine TkAt.q HT ?_; repeat (first | exact Q.refl _ | assumption | refine Q.alloc ?_ _ | refine Q.drew ?_ | refine Q.drewN ?_ _)); rintro e w2 ⟨rfl, h2⟩; have h2a := h2.g.g0; have h2b := h2.g.g2; have h2c := h2.d0; have h2d := h2.d1)
    | (go_at_call 16; (with_reducible refine (kB _ ?_).mono ?_); (· refine TkAt.q h2 ?_; repeat (first | exact Q.refl _ | assumption | refine Q.alloc ?_ _ | refine Q.drew ?_ | refine Q.drewN ?_ _)); rintro e w3 ⟨rfl, h3⟩; have h3a := h3.g.g0; have h3b := h3.g.g2; have h3c := h3.d0; have h3d := h3.d1)
    | (go_at_call 16; (with_reducible refine (kC _ ?_).mono ?_); (· refine TkAt.q h3 ?_; repeat (first | exact Q.refl _ | assumption | refine Q.alloc ?_ _ | refine Q.drew ?_ | refine Q.drewN ?_ _)); rintro e w4 ⟨rfl, h4⟩; have h4a := h4.g.g0; have h4b := h4.g.g2; have h4c := h4.d0; have h4d := h4.d1)
    | (go_at_call 17; (with_reducible refine (kD _ ?_).mono ?_); (· refine TkAt.q h4 ?_; repeat (first | exact Q.refl _ | assumption | refine Q.alloc ?_ _ | refine Q.drew ?_ | refine Q.drewN ?_ _)); rintro e w5 ⟨rfl, h5⟩; have h5a := h5.g.g0; have h5b := h5.g.g2; have h5c := h5.d0; have h5d := h5.d1))
  have g5 := h5.g.g5
  have f5 := h5.g.f5
  clear kA kB kC kD v0 v1 v2 v3
  go_wp2_with fail
  go_ret
  exact ⟨rfl, h5.g.frG now, h5.f.trans (Fs.ofFr ((Fr.refl _ _).setCell 5 _) (by simp [Pl.all]))⟩
theorem ggive_none (p : Pl) (x : Ga) (n now : Int) (k : Bool) (w : World) (h : GaAt p x w) (ho : GaOk x n now) (h0 : x.ca.runs = 0) :
    Calls Tryz.prog 18 #[.pointer (some ⟨p.G, 0, none⟩), .int .i64 0, .bool k, .int .i64 now] w fun e w' => e = .returned (.tuple #[.int .i64 0, .int .i64 5]) ∧ Q w w' := by
  have kc := call_any p x now w h ho.hn ho.l0
  have kg := cgive_none p.C x.ca w h.c h0
  have g0 := h.g0
  clear h ho h0
  go_enter Tryz.func18, Tryz.ntmps18
  go_wp2_with (first
    | (go_at_call 31; (with_reducible refine kc.mono ?_); rintro e w1 ⟨rfl, rfl⟩)
    | (go_at_call 20; (with_reducible refine kg.mono ?_); rintro e w1 ⟨rfl, q1⟩))
  go_ret2
  exact ⟨rfl, q1⟩
/-- an end of a run -/
def Ga.give (x : Ga) (k : Bool) (now : Int) : Ga := (x.gv1.at' now).gv2 k now
set_option maxRecDepth 100000 in
theorem ggive_some (p : Pl) (x : Ga) (n now : Int) (k : Bool) (w : World) (h : GaAt p x w) (ho : GaOk x n now) (h0 : 0 < x.ca.runs) :
    Calls Tryz.prog 18 #[.pointer (some ⟨p.G, 0, none⟩), .int .i64 0, .bool k, .int .i64 now] w fun e w' => e = .returned (.tuple #[.int .i64 (x.bx.rep k now).1, .int .i64 0]) ∧ GaAt p (x.give k now) w' ∧ Fs p.all w w' := by
  have kc := call_any p x now w h ho.hn ho.l0
  have kg : Calls Tryz.prog 20 #[.pointer (some ⟨p.C, 0, none⟩), .int .i64 0] w fun e w' => e = .returned (.int .i64 0) ∧ GaAt p x.gv1 w' ∧ Fs p.all w w' :=
    (cgive_some p.C x.ca w h.c ho.ca h0).mono fun e w' ⟨he, hc, hf⟩ => ⟨he, h.frC hf hc rfl rfl, Fs.ofFr hf (by simp [Pl.all])⟩
  have kr : ∀ w2, GaAt p (x.gv1.at' now) w2 → Calls Tryz.prog 19 #[.pointer (some ⟨p.B, 0, none⟩), .bool k, .int .i64 now] w2 fun e w' => e = .returned (.tuple #[.int .i64 (x.bx.rep k now).1, .int .i64 0]) ∧ GaAt p (x.give k now) w' ∧ Fs p.all w2 w' := fun w2 h2 =>
    (breport_any p.B x.bx k n now w2 h2.b ho.bx ho.hn ho.l3).mono fun e w' ⟨he, hc, hf⟩ => ⟨he, h2.frB hf hc, Fs.ofFr hf (by simp [Pl.all])⟩
  have g0 := h.g0
  obtain ⟨r, hr⟩ : ∃ r, (x.bx.rep k now).1 = r := ⟨_, rfl⟩
  rw [hr] at kr ⊢
  clear h ho h0 hr
  go_enter Tryz.func18, Tryz.ntmps18
  go_wp2_with (first
    | (go_at_call 31; (with_reducible refine kc.mono ?_); rintro e w1 ⟨rfl, rfl⟩)
    | (go_at_call 20; (with_reducible refine kg.mono ?_); rintro e w1 ⟨rfl, h1, f1⟩; have h2 := h1.frG now; have c5 := h1.g5; have c6 := h1.f5; have c3 := h2.g3; have c4 := h2.d1)
    | (go_at_call 19; (with_reducible refine (kr _ h2).mono ?_); rintro e w2 ⟨rfl, h3, f3⟩))
  go_ret2
  exact ⟨rfl, h3, (f1.trans (Fs.ofFr ((Fr.refl _ _).setCell 5 _) (by simp [Pl.all]))).trans f3⟩
end Go.Proofs.YtnmgcjkffeeapabGreatDoor
