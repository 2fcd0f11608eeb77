/- The gate and its parts, each in a state of its own. -/
import Derived.Test.YtnmgcjkffeeapabGreatDoorLawB
namespace Go.Proofs.YtnmgcjkffeeapabGreatDoor
open Go.RowKit
set_option linter.unusedVariables false
set_option linter.unusedSimpArgs false
/-- what no step changes -/
structure Fix (p : Pl) (K A B X P : Nat) (cap : Int) (w0 : World) : Prop where
  nd : (p.all ++ [K, A, B, X, P]).Nodup
  ge : ∀ b ∈ p.all ++ [K, A, B, X, P], w0.heap.size ≤ b
structure Both (p : Pl) (K A B X P : Nat) (cap : Int) (g : Ga) (kc : Ca) (ka kb : Li) (kx : Bx) (w0 w : World) : Prop where
  g : GaAt p g w
  k : CaAt K kc w
  a : LiAt A ka w
  b : LiAt B kb w
  v : BxAt X kx w
  cp : w.cell? ⟨P, 0, none⟩ = some (.int .i64 cap)
  q : Q w0 w
  f : Fix p K A B X P cap w0
theorem Q.fs {S : List Nat} {a b c : World} (h : Q a b) (k : Fs S b c) (hs : ∀ j ∈ S, a.heap.size ≤ j) : Q a c := by
  obtain ⟨k1, k2, k3, k4, k5⟩ := k
  refine ⟨k1.trans h.os, k2.trans h.tape, k3.trans h.output, Nat.le_trans h.size k4, fun j hj => ?_⟩
  exact (k5 j (Nat.lt_of_lt_of_le hj h.size) (fun hm => by have := hs j hm; omega)).trans (h.block j hj)
section
variable {p : Pl} {K A B X P : Nat} {cap : Int} {x : Ga} {n t : Int} {g g' : Ga} {kc kc' : Ca} {ka ka' kb kb' : Li} {kx kx' : Bx} {w0 w w' : World}
theorem LoopAt.both (h : LoopAt p K A B X P cap x n t w0 w) : Both p K A B X P cap x x.ca x.la x.lj x.bx w0 w := ⟨h.g, h.k, h.a, h.b, h.v, h.cp, h.q, h.nd, h.ge⟩
theorem Both.loop (h : Both p K A B X P cap x x.ca x.la x.lj x.bx w0 w) (ok : GaOk x n t) (al : x.ca.all = 3) (mo : x.ca.most = cap) : LoopAt p K A B X P cap x n t w0 w := ⟨h.g, h.k, h.a, h.b, h.v, h.cp, h.q, ok, al, mo, h.f.nd, h.f.ge⟩
theorem Both.q' (h : Both p K A B X P cap g kc ka kb kx w0 w) (q : Q w w') : Both p K A B X P cap g kc ka kb kx w0 w' := ⟨h.g.q q, h.k.q q, h.a.q q, h.b.q q, h.v.q q, keepc q h.cp, h.q.trans q, h.f⟩
theorem Fix.ne (h : Fix p K A B X P cap w0) : (∀ b ∈ p.all, b ≠ K ∧ b ≠ A ∧ b ≠ B ∧ b ≠ X ∧ b ≠ P) ∧ K ≠ A ∧ K ≠ B ∧ K ≠ X ∧ K ≠ P ∧ A ≠ B ∧ A ≠ X ∧ A ≠ P ∧ B ≠ X ∧ B ≠ P ∧ X ≠ P := by
  have hn := h.nd
  rw [List.nodup_append] at hn
  obtain ⟨h1, h2, h3⟩ := hn
  simp at h2
  refine ⟨fun b hb => ⟨h3 b hb K (by simp), h3 b hb A (by simp), h3 b hb B (by simp), h3 b hb X (by simp), h3 b hb P (by simp)⟩, ?_⟩
  omega
theorem Both.gate (h : Both p K A B X P cap g kc ka kb kx w0 w) (hg : GaAt p g' w') (hf : Fs p.all w w') : Both p K A B X P cap g' kc ka kb kx w0 w' := by
  obtain ⟨h1, h2⟩ := h.f.ne
  have hP := lt_of_cell h.cp
  exact ⟨hg, h.k.fs hf (fun hm => (h1 _ hm).1 rfl), h.a.fs hf (fun hm => (h1 _ hm).2.1 rfl), h.b.fs hf (fun hm => (h1 _ hm).2.2.1 rfl), h.v.fs hf (fun hm => (h1 _ hm).2.2.2.1 rfl), (hf.cell hP (fun hm => (h1 _ hm).2.2.2.2 rfl) 0).trans h.cp, h.q.fs hf (fun j hj => h.f.ge j (by simp [hj])), h.f⟩
theorem Both.frK (h : Both p K A B X P cap g kc ka kb kx w0 w) (hk : CaAt K kc' w') (hf : Fr K w w') : Both p K A B X P cap g kc' ka kb kx w0 w' := by
  obtain ⟨h1, a1, a2, a3, a4, a5, a6, a7, a8, a9, a10⟩ := h.f.ne
  have hP := lt_of_cell h.cp
  exact ⟨h.g.fs (S := [K]) (Fs.ofFr hf (by simp)) (fun b hb => by simp [(h1 b hb).1]), hk, h.a.fr hf (Ne.symm a1), h.b.fr hf (Ne.symm a2), h.v.fr hf (Ne.symm a3), (hf.cell hP (Ne.symm a4) 0).trans h.cp, h.q.fs (S := [K]) (Fs.ofFr hf (by simp)) (fun j hj => h.f.ge j (by simp at hj; simp [hj])), h.f⟩
theorem Both.frA (h : Both p K A B X P cap g kc ka kb kx w0 w) (hk : LiAt A ka' w') (hf : Fr A w w') : Both p K A B X P cap g kc ka' kb kx w0 w' := by
  obtain ⟨h1, a1, a2, a3, a4, a5, a6, a7, a8, a9, a10⟩ := h.f.ne
  have hP := lt_of_cell h.cp
  exact ⟨h.g.fs (S := [A]) (Fs.ofFr hf (by simp)) (fun b hb => by simp [(h1 b hb).2.1]), h.k.fr hf a1, hk, h.b.fr hf (Ne.symm a5), h.v.fr hf (Ne.symm a6), (hf.cell hP (Ne.symm a7) 0).trans h.cp, h.q.fs (S := [A]) (Fs.ofFr hf (by simp)) (fun j hj => h.f.ge j (by simp at hj; simp [hj])), h.f⟩
theorem Both.frB (h : Both p K A B X P cap g kc ka kb kx w0 w) (hk : LiAt B kb' w') (hf : Fr B w w') : Both p K A B X P cap g kc ka kb' kx w0 w' := by
  obtain ⟨h1, a1, a2, a3, a4, a5, a6, a7, a8, a9, a10⟩ := h.f.ne
  have hP := lt_of_cell h.cp
  exact ⟨h.g.fs (S := [B]) (Fs.ofFr hf (by simp)) (fun b hb => by simp [(h1 b hb).2.2.1]), h.k.fr hf a2, h.a.fr hf a5, hk, h.v.fr hf (Ne.symm a8), (hf.cell hP (Ne.symm a9) 0).trans h.cp, h.q.fs (S := [B]) (Fs.ofFr hf (by simp)) (fun j hj => h.f.ge j (by simp at hj; simp [hj])), h.f⟩
theorem Both.frX (h : Both p K A B X P cap g kc ka kb kx w0 w) (hk : BxAt X kx' w') (hf : Fr X w w') : Both p K A B X P cap g kc ka kb kx' w0 w' := by
  obtain ⟨h1, a1, a2, a3, a4, a5, a6, a7, a8, a9, a10⟩ := h.f.ne
  have hP := lt_of_cell h.cp
  exact ⟨h.g.fs (S := [X]) (Fs.ofFr hf (by simp)) (fun b hb => by simp [(h1 b hb).2.2.2.1]), h.k.fr hf a3, h.a.fr hf a6, h.b.fr hf a8, hk, (hf.cell hP (Ne.symm a10) 0).trans h.cp, h.q.fs (S := [X]) (Fs.ofFr hf (by simp)) (fun j hj => h.f.ge j (by simp at hj; simp [hj])), h.f⟩
/-- the calls of a launch -/
theorem b14 (h : LoopAt p K A B X P cap x n t w0 w) (ha : acc (rz x t) 5 = 0) : Calls Tryz.prog 14 #[.pointer (some ⟨p.G, 0, none⟩), .int .i64 0, .int .i64 t] w fun e w' => e = .returned (.int .i64 0) ∧ Both p K A B X P cap (x.take t) x.ca x.la x.lj x.bx w0 w' :=
  (gtake_yes p x n t w h.g h.ok ha).mono fun e w' ⟨he, hg, hf⟩ => ⟨he, h.both.gate hg hf⟩
theorem b15 (ok : GaOk x n t) (hf : x.ca.runs < x.ca.most ∧ x.ca.runs < x.ca.all) (h : Both p K A B X P cap g x.ca x.la x.lj x.bx w0 w) : Calls Tryz.prog 15 #[.pointer (some ⟨K, 0, none⟩), .int .i64 0] w fun e w' => e = .returned (.int .i64 0) ∧ Both p K A B X P cap g ⟨x.ca.all, x.ca.most, x.ca.runs + 1⟩ x.la x.lj x.bx w0 w' :=
  (ctake_ok K x.ca w h.k ok.ca hf).mono fun e w' ⟨he, hk, hfr⟩ => ⟨he, h.frK hk hfr⟩
theorem b16A (ok : GaOk x n t) (he : x.la.early t = false) (h : Both p K A B X P cap g kc x.la x.lj x.bx w0 w) : Calls Tryz.prog 16 #[.pointer (some ⟨A, 0, none⟩), .int .i64 t] w fun e w' => e = .returned (.int .i64 0) ∧ Both p K A B X P cap g kc (x.la.count t) x.lj x.bx w0 w' :=
  (ltake_ok A x.la n t w h.a ok.la ok.hn ok.l1 he).mono fun e w' ⟨he, hk, hfr⟩ => ⟨he, h.frA hk hfr⟩
theorem b16B (ok : GaOk x n t) (he : x.lj.early t = false) (h : Both p K A B X P cap g kc ka x.lj x.bx w0 w) : Calls Tryz.prog 16 #[.pointer (some ⟨B, 0, none⟩), .int .i64 t] w fun e w' => e = .returned (.int .i64 0) ∧ Both p K A B X P cap g kc ka (x.lj.count t) x.bx w0 w' :=
  (ltake_ok B x.lj n t w h.b ok.lj ok.hn ok.l2 he).mono fun e w' ⟨he, hk, hfr⟩ => ⟨he, h.frB hk hfr⟩
theorem b17 (ok : GaOk x n t) (he : x.bx.alw t = true) (h : Both p K A B X P cap g kc ka kb x.bx w0 w) : Calls Tryz.prog 17 #[.pointer (some ⟨X, 0, none⟩), .int .i64 t] w fun e w' => e = .returned (.int .i64 0) ∧ Both p K A B X P cap g kc ka kb (x.bx.take t) w0 w' :=
  (btake_ok X x.bx n t w h.v ok.bx ok.hn ok.l3 he).mono fun e w' ⟨he, hk, hfr⟩ => ⟨he, h.frX hk hfr⟩
theorem took (ok : GaOk x n t) (hn : n < 100) (hf : x.ca.runs < x.ca.all) (al : x.ca.all = 3) (mo : x.ca.most = cap) (h : Both p K A B X P cap (x.take t) ⟨x.ca.all, x.ca.most, x.ca.runs + 1⟩ (x.la.count t) (x.lj.count t) (x.bx.take t) w0 w) : LoopAt p K A B X P cap (x.take t) (n + 1) t w0 w :=
  Both.loop (x := x.take t) h (ok.take hn hf) al mo
/-- the calls of an end -/
theorem b18 (k : Bool) (h : LoopAt p K A B X P cap x n t w0 w) (hr : 0 < x.ca.runs) : Calls Tryz.prog 18 #[.pointer (some ⟨p.G, 0, none⟩), .int .i64 0, .bool k, .int .i64 t] w fun e w' => e = .returned (.tuple #[.int .i64 (x.bx.rep k t).1, .int .i64 0]) ∧ Both p K A B X P cap (x.give k t) x.ca x.la x.lj x.bx w0 w' :=
  (ggive_some p x n t k w h.g h.ok hr).mono fun e w' ⟨he, hg, hf⟩ => ⟨he, h.both.gate hg hf⟩
theorem b19 (k : Bool) (ok : GaOk x n t) (h : Both p K A B X P cap g kc ka kb x.bx w0 w) : Calls Tryz.prog 19 #[.pointer (some ⟨X, 0, none⟩), .bool k, .int .i64 t] w fun e w' => e = .returned (.tuple #[.int .i64 (x.bx.rep k t).1, .int .i64 0]) ∧ Both p K A B X P cap g kc ka kb (x.bx.rep k t).2 w0 w' :=
  (breport_any X x.bx k n t w h.v ok.bx ok.hn ok.l3).mono fun e w' ⟨he, hk, hfr⟩ => ⟨he, h.frX hk hfr⟩
theorem b20 (ok : GaOk x n t) (hr : 0 < x.ca.runs) (h : Both p K A B X P cap g x.ca ka kb kx w0 w) : Calls Tryz.prog 20 #[.pointer (some ⟨K, 0, none⟩), .int .i64 0] w fun e w' => e = .returned (.int .i64 0) ∧ Both p K A B X P cap g ⟨x.ca.all, x.ca.most, x.ca.runs + -1⟩ ka kb kx w0 w' :=
  (cgive_some K x.ca w h.k ok.ca hr).mono fun e w' ⟨he, hk, hfr⟩ => ⟨he, h.frK hk hfr⟩
theorem gave (k : Bool) (ok : GaOk x n t) (hn : n < 100) (hr : 0 < x.ca.runs) (al : x.ca.all = 3) (mo : x.ca.most = cap) (h : Both p K A B X P cap (x.give k t) ⟨x.ca.all, x.ca.most, x.ca.runs + -1⟩ x.la x.lj (x.bx.rep k t).2 w0 w) : LoopAt p K A B X P cap (x.give k t) (n + 1) t w0 w :=
  Both.loop (x := x.give k t) h (ok.give k hn hr) al mo
theorem stay (h : LoopAt p K A B X P cap x n t w0 w) (hn : n < 100) : LoopAt p K A B X P cap x (n + 1) t w0 w :=
  h.both.loop (h.ok.next hn) h.al h.mo
end
end Go.Proofs.YtnmgcjkffeeapabGreatDoor
