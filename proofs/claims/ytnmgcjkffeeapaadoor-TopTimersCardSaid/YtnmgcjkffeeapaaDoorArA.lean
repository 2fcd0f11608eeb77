/- The arena: where it lies; the contracts of handle and Put. -/
import Derived.Test.YtnmgcjkffeeapaaDoorBase
namespace Go.Proofs.YtnmgcjkffeeapaaDoor
open Go.RowKit
set_option linter.unusedVariables false
set_option linter.unusedSimpArgs false
/-- an arena of 60 slots, of which the first n were used, once each; no slot was freed before the last one of these was taken -/
structure ArAt (A S N n : Nat) (alive : Nat → Bool) (fr tk : Int) (w : World) : Prop where
  a0 : w.cell? ⟨A, 0, none⟩ = some (.bool true)
  a1 : w.cell? ⟨A, 1, none⟩ = some (.slice (some ⟨S, 0, none⟩) N N)
  a2 : w.cell? ⟨A, 2, none⟩ = some (.int .i64 fr)
  a3 : w.cell? ⟨A, 3, none⟩ = some (.int .i64 (n : Int))
  a4 : w.cell? ⟨A, 4, none⟩ = some (.int .i64 tk)
  g2 : w.frozen? ⟨A, 2, none⟩ = false
  g3 : w.frozen? ⟨A, 3, none⟩ = false
  g4 : w.frozen? ⟨A, 4, none⟩ = false
  s0 : ∀ k, k < N → w.cell? ⟨S, k * 4, none⟩ = some (.int .i64 (if k < n then 1 else 0))
  s1 : ∀ k, k < N → ∃ v : Int, w.cell? ⟨S, k * 4 + 1, none⟩ = some (.int .i64 v)
  s2 : ∀ k, k < N → w.cell? ⟨S, k * 4 + 2, none⟩ = some (.bool (alive k))
  s3 : ∀ k, k < N → ∃ v : Int, w.cell? ⟨S, k * 4 + 3, none⟩ = some (.int .i64 v)
  sf : ∀ j, j < N * 4 → w.frozen? ⟨S, j, none⟩ = false
  bd : -1 ≤ fr ∧ fr < 60 ∧ -60 ≤ tk ∧ tk ≤ 60
  ne : A ≠ S
  nb : 0 < N ∧ N ≤ 60
theorem ArAt.ltA {A S N n : Nat} {alive : Nat → Bool} {fr tk : Int} {w : World} (h : ArAt A S N n alive fr tk w) : A < w.heap.size := lt_of_cell h.a0
theorem ArAt.ltS {A S N n : Nat} {alive : Nat → Bool} {fr tk : Int} {w : World} (h : ArAt A S N n alive fr tk w) : S < w.heap.size := lt_of_cell (h.s0 0 h.nb.1)
theorem ArAt.fs {A S N n : Nat} {alive : Nat → Bool} {fr tk : Int} {T : List Nat} {w w' : World} (h : ArAt A S N n alive fr tk w) (hf : Fs T w w') (h1 : A ∉ T) (h2 : S ∉ T) : ArAt A S N n alive fr tk w' := by
  have lA := h.ltA
  have lS := h.ltS
  exact ⟨(hf.cell lA h1 0).trans h.a0, (hf.cell lA h1 1).trans h.a1, (hf.cell lA h1 2).trans h.a2, (hf.cell lA h1 3).trans h.a3, (hf.cell lA h1 4).trans h.a4, (hf.frozen lA h1 2).trans h.g2, (hf.frozen lA h1 3).trans h.g3, (hf.frozen lA h1 4).trans h.g4,
    fun k hk => (hf.cell lS h2 _).trans (h.s0 k hk), fun k hk => (h.s1 k hk).imp fun v hv => (hf.cell lS h2 _).trans hv, fun k hk => (hf.cell lS h2 _).trans (h.s2 k hk), fun k hk => (h.s3 k hk).imp fun v hv => (hf.cell lS h2 _).trans hv, fun j hj => (hf.frozen lS h2 j).trans (h.sf j hj), h.bd, h.ne, h.nb⟩
theorem ArAt.q {A S N n : Nat} {alive : Nat → Bool} {fr tk : Int} {w w' : World} (h : ArAt A S N n alive fr tk w) (q : Q w w') : ArAt A S N n alive fr tk w' := h.fs (T := []) (Fs.ofQ q) (by simp) (by simp)
theorem handle_any (A S N n : Nat) (alive : Nat → Bool) (fr tk : Int) (k : Nat) (w : World) (h : ArAt A S N n alive fr tk w) (hk : k < N) (hn : k < n) : Calls Tryd.prog 29 #[.pointer (some ⟨A, 0, none⟩), .int .i64 (k : Int)] w fun e w' => e = .returned (.int .i64 (4096 + (k : Int))) ∧ w = w' := by
  have a1 := h.a1
  have s0 := h.s0 k hk
  rw [if_pos hn] at s0
  have y1 : (0 : Int) ≤ (k : Int) ∧ (k : Int) < (N : Int) := by omega
  have y2 : (N : Int) ≤ 60 := by have := h.nb; omega
  clear h hn
  go_enter Tryd.func29, Tryd.ntmps29
  go_wp2_with fail
  go_ret
  exact ⟨rfl, rfl⟩
/-- the next slot is marked as used up -/
structure Put1 (A S N n : Nat) (alive : Nat → Bool) (tk : Int) (w : World) : Prop where
  a0 : w.cell? ⟨A, 0, none⟩ = some (.bool true)
  a1 : w.cell? ⟨A, 1, none⟩ = some (.slice (some ⟨S, 0, none⟩) N N)
  a2 : w.cell? ⟨A, 2, none⟩ = some (.int .i64 (-1))
  a3 : w.cell? ⟨A, 3, none⟩ = some (.int .i64 ((n : Int) + 1))
  a4 : w.cell? ⟨A, 4, none⟩ = some (.int .i64 tk)
  g2 : w.frozen? ⟨A, 2, none⟩ = false
  g3 : w.frozen? ⟨A, 3, none⟩ = false
  g4 : w.frozen? ⟨A, 4, none⟩ = false
  s0 : ∀ k, k < N → w.cell? ⟨S, k * 4, none⟩ = some (.int .i64 (if k < n then 1 else 0))
  s1 : ∀ k, k < N → ∃ v : Int, w.cell? ⟨S, k * 4 + 1, none⟩ = some (.int .i64 v)
  s2 : ∀ k, k < N → w.cell? ⟨S, k * 4 + 2, none⟩ = some (.bool (alive k))
  s3 : ∀ k, k < N → ∃ v : Int, w.cell? ⟨S, k * 4 + 3, none⟩ = some (.int .i64 v)
  sf : ∀ j, j < N * 4 → w.frozen? ⟨S, j, none⟩ = false
  ne : A ≠ S
  nb : 0 < N ∧ N ≤ 60
theorem put1 {A S N n : Nat} {alive : Nat → Bool} {tk : Int} {w : World} (h : ArAt A S N n alive (-1) tk w) (m : Nat) : Put1 A S N n alive tk ((w.drewN m).setCell ⟨A, 3, none⟩ (.int .i64 ((n : Int) + 1))) := by
  have h' := h.q ((Q.refl w).drewN m)
  have hf := (Fr.refl A (w.drewN m)).setCell 3 (.int .i64 ((n : Int) + 1))
  have lS := h'.ltS
  have hne := Ne.symm h'.ne
  exact ⟨(sc_ne _ _ _ _ _ (by decide)).trans h'.a0, (sc_ne _ _ _ _ _ (by decide)).trans h'.a1, (sc_ne _ _ _ _ _ (by decide)).trans h'.a2, World.cell?_setCell_same _ _ _ h'.a3, (sc_ne _ _ _ _ _ (by decide)).trans h'.a4, by rw [World.frozen?_setCell]; exact h'.g2, by rw [World.frozen?_setCell]; exact h'.g3, by rw [World.frozen?_setCell]; exact h'.g4,
    fun k hk => (hf.cell lS hne _).trans (h'.s0 k hk), fun k hk => (h'.s1 k hk).imp fun v hv => (hf.cell lS hne _).trans hv, fun k hk => (hf.cell lS hne _).trans (h'.s2 k hk), fun k hk => (h'.s3 k hk).imp fun v hv => (hf.cell lS hne _).trans hv, fun j hj => (hf.frozen lS hne j).trans (h'.sf j hj), h'.ne, h'.nb⟩
theorem put1_cells {A S N n : Nat} {alive : Nat → Bool} {tk : Int} {w : World} (h : Put1 A S N n alive tk w) (hn : n < N) : w.cell? ⟨A, 1, none⟩ = some (.slice (some ⟨S, 0, none⟩) N N) ∧ w.cell? ⟨A, 4, none⟩ = some (.int .i64 tk) ∧ w.frozen? ⟨A, 4, none⟩ = false ∧ w.cell? ⟨S, n * 4, none⟩ = some (.int .i64 0) ∧ (∃ v : Int, w.cell? ⟨S, n * 4 + 1, none⟩ = some (.int .i64 v)) ∧ w.cell? ⟨S, n * 4 + 2, none⟩ = some (.bool (alive n)) ∧ (∃ v : Int, w.cell? ⟨S, n * 4 + 3, none⟩ = some (.int .i64 v)) ∧ w.frozen? ⟨S, n * 4, none⟩ = false ∧ w.frozen? ⟨S, n * 4 + 1, none⟩ = false ∧ w.frozen? ⟨S, n * 4 + 2, none⟩ = false ∧ w.frozen? ⟨S, n * 4 + 3, none⟩ = false := by
  have t0 := h.s0 n hn
  rw [if_neg (Nat.lt_irrefl n)] at t0
  exact ⟨h.a1, h.a4, h.g4, t0, h.s1 n hn, h.s2 n hn, h.s3 n hn, h.sf _ (by omega), h.sf _ (by omega), h.sf _ (by omega), h.sf _ (by omega)⟩
theorem set4_out (w : World) (S o j : Nat) (a b c d : Value) (h : j < o ∨ o + 4 ≤ j) : ((((w.setCell ⟨S, o, none⟩ a).setCell ⟨S, o + 1, none⟩ b).setCell ⟨S, o + 2, none⟩ c).setCell ⟨S, o + 3, none⟩ d).cell? ⟨S, j, none⟩ = w.cell? ⟨S, j, none⟩ := by
  rw [sc_ne _ _ _ _ _ (by omega), sc_ne _ _ _ _ _ (by omega), sc_ne _ _ _ _ _ (by omega), sc_ne _ _ _ _ _ (by omega)]
theorem set4_in (w : World) (S o : Nat) (a b c d a' b' c' d' : Value) (ha : w.cell? ⟨S, o, none⟩ = some a') (hb : w.cell? ⟨S, o + 1, none⟩ = some b') (hc : w.cell? ⟨S, o + 2, none⟩ = some c') (hd : w.cell? ⟨S, o + 3, none⟩ = some d') :
    ((((w.setCell ⟨S, o, none⟩ a).setCell ⟨S, o + 1, none⟩ b).setCell ⟨S, o + 2, none⟩ c).setCell ⟨S, o + 3, none⟩ d).cell? ⟨S, o, none⟩ = some a ∧ ((((w.setCell ⟨S, o, none⟩ a).setCell ⟨S, o + 1, none⟩ b).setCell ⟨S, o + 2, none⟩ c).setCell ⟨S, o + 3, none⟩ d).cell? ⟨S, o + 1, none⟩ = some b ∧ ((((w.setCell ⟨S, o, none⟩ a).setCell ⟨S, o + 1, none⟩ b).setCell ⟨S, o + 2, none⟩ c).setCell ⟨S, o + 3, none⟩ d).cell? ⟨S, o + 2, none⟩ = some c ∧ ((((w.setCell ⟨S, o, none⟩ a).setCell ⟨S, o + 1, none⟩ b).setCell ⟨S, o + 2, none⟩ c).setCell ⟨S, o + 3, none⟩ d).cell? ⟨S, o + 3, none⟩ = some d := by
  refine ⟨?_, ?_, ?_, ?_⟩
  · rw [sc_ne _ _ _ _ _ (by omega), sc_ne _ _ _ _ _ (by omega), sc_ne _ _ _ _ _ (by omega)]
    exact World.cell?_setCell_same _ _ _ ha
  · rw [sc_ne _ _ _ _ _ (by omega), sc_ne _ _ _ _ _ (by omega)]
    exact World.cell?_setCell_same _ _ _ ((sc_ne _ _ _ _ _ (by omega)).trans hb)
  · rw [sc_ne _ _ _ _ _ (by omega)]
    exact World.cell?_setCell_same _ _ _ ((sc_ne _ _ _ _ _ (by omega)).trans ((sc_ne _ _ _ _ _ (by omega)).trans hc))
  · exact World.cell?_setCell_same _ _ _ ((sc_ne _ _ _ _ _ (by omega)).trans ((sc_ne _ _ _ _ _ (by omega)).trans ((sc_ne _ _ _ _ _ (by omega)).trans hd)))
theorem put2 {A S N n : Nat} {alive : Nat → Bool} {tk : Int} {w : World} (h : Put1 A S N n alive tk w) (hn : n < N) (ht : -60 ≤ tk ∧ tk < 60) (v : Int) :
    ArAt A S N (n + 1) (fun k => if k = n then true else alive k) (-1) (tk + 1) (((((w.setCell ⟨S, n * 4, none⟩ (.int .i64 1)).setCell ⟨S, n * 4 + 1, none⟩ (.int .i64 v)).setCell ⟨S, n * 4 + 2, none⟩ (.bool true)).setCell ⟨S, n * 4 + 3, none⟩ (.int .i64 (-1))).setCell ⟨A, 4, none⟩ (.int .i64 (tk + 1))).drew := by
  obtain ⟨b1, b4, e4, u0, ⟨v1, u1⟩, u2, ⟨v3, u3⟩, k0, k1, k2, k3⟩ := put1_cells h hn
  have hin := set4_in w S (n * 4) (.int .i64 1) (.int .i64 v) (.bool true) (.int .i64 (-1)) _ _ _ _ u0 u1 u2 u3
  have hout := fun j hj => set4_out w S (n * 4) j (.int .i64 1) (.int .i64 v) (.bool true) (.int .i64 (-1)) hj
  have fS : Fr S w ((((w.setCell ⟨S, n * 4, none⟩ (.int .i64 1)).setCell ⟨S, n * 4 + 1, none⟩ (.int .i64 v)).setCell ⟨S, n * 4 + 2, none⟩ (.bool true)).setCell ⟨S, n * 4 + 3, none⟩ (.int .i64 (-1))) := ((((Fr.refl S w).setCell _ _).setCell _ _).setCell _ _).setCell _ _
  have lA : A < w.heap.size := lt_of_cell h.a0
  have lS : S < w.heap.size := lt_of_cell u0
  have cA := fun o => fS.cell lA h.ne o
  have cF := fun o => fS.frozen lA h.ne o
  have frz : ∀ p, ((((w.setCell ⟨S, n * 4, none⟩ (.int .i64 1)).setCell ⟨S, n * 4 + 1, none⟩ (.int .i64 v)).setCell ⟨S, n * 4 + 2, none⟩ (.bool true)).setCell ⟨S, n * 4 + 3, none⟩ (.int .i64 (-1))).frozen? p = w.frozen? p := fun p => by simp only [World.frozen?_setCell]
  have sz := fS.2.2.2.1
  generalize (((w.setCell ⟨S, n * 4, none⟩ (.int .i64 1)).setCell ⟨S, n * 4 + 1, none⟩ (.int .i64 v)).setCell ⟨S, n * 4 + 2, none⟩ (.bool true)).setCell ⟨S, n * 4 + 3, none⟩ (.int .i64 (-1)) = V at *
  have fA := (Fr.refl A V).setCell 4 (.int .i64 (tk + 1))
  have cS := fun o => fA.cell (j := S) (by omega) (Ne.symm h.ne) o
  have hd : ∀ (W : World) p, W.drew.cell? p = W.cell? p := fun _ _ => rfl
  have hdf : ∀ (W : World) p, W.drew.frozen? p = W.frozen? p := fun _ _ => rfl
  refine ⟨?_, ?_, ?_, ?_, ?_, ?_, ?_, ?_, fun k hk => ?_, fun k hk => ?_, fun k hk => ?_, fun k hk => ?_, fun j hj => ?_, ⟨by omega, by omega, by omega, by omega⟩, h.ne, h.nb⟩
  · rw [hd, sc_ne _ _ _ _ _ (by omega), cA]; exact h.a0
  · rw [hd, sc_ne _ _ _ _ _ (by omega), cA]; exact h.a1
  · rw [hd, sc_ne _ _ _ _ _ (by omega), cA]; exact h.a2
  · rw [hd, sc_ne _ _ _ _ _ (by omega), cA]; exact h.a3
  · rw [hd]; exact World.cell?_setCell_same _ _ _ ((cA 4).trans b4)
  · rw [hdf, World.frozen?_setCell, frz]; exact h.g2
  · rw [hdf, World.frozen?_setCell, frz]; exact h.g3
  · rw [hdf, World.frozen?_setCell, frz]; exact h.g4
  · rw [hd, cS]
    by_cases e : k = n
    · subst e; rw [hin.1, if_pos (by omega)]
    · rw [hout _ (by omega), h.s0 k hk]
      by_cases e2 : k < n
      · rw [if_pos e2, if_pos (by omega)]
      · rw [if_neg e2, if_neg (by omega)]
  · rw [hd, cS]
    by_cases e : k = n
    · subst e; exact ⟨v, hin.2.1⟩
    · rw [hout _ (by omega)]; exact h.s1 k hk
  · rw [hd, cS]
    by_cases e : k = n
    · subst e; rw [hin.2.2.1, if_pos rfl]
    · rw [hout _ (by omega), if_neg e]; exact h.s2 k hk
  · rw [hd, cS]
    by_cases e : k = n
    · subst e; exact ⟨-1, hin.2.2.2⟩
    · rw [hout _ (by omega)]; exact h.s3 k hk
  · rw [hdf, World.frozen?_setCell, frz]; exact h.sf j hj
set_option maxRecDepth 100000 in
theorem put_ok (A S N n : Nat) (alive : Nat → Bool) (tk v : Int) (w : World) (h : ArAt A S N n alive (-1) tk w) (hn : n < N) (ht : tk < 60) : Calls Tryd.prog 17 #[.pointer (some ⟨A, 0, none⟩), .int .i64 v] w fun e w' => e = .returned (.tuple #[.int .i64 (4096 + (n : Int)), .int .i64 0]) ∧ ArAt A S N (n + 1) (fun k => if k = n then true else alive k) (-1) (tk + 1) w' ∧ Fs [A, S] w w' := by
  have H := Lib.hid h
  obtain ⟨a0, a1, a2, a3, a4, g2, g3, g4, s0, s1, s2, s3, sf, bd, ne, nb⟩ := h
  have t0 := s0 n hn
  obtain ⟨v1, t1⟩ := s1 n hn
  have t2 := s2 n hn
  obtain ⟨v3, t3⟩ := s3 n hn
  have f0 := sf (n * 4) (by omega)
  have f1 := sf (n * 4 + 1) (by omega)
  have f2 := sf (n * 4 + 2) (by omega)
  have f3 := sf (n * 4 + 3) (by omega)
  rw [if_neg (Nat.lt_irrefl n)] at t0
  clear s0 s1 s2 s3 sf
  have y1 : (0 : Int) ≤ (n : Int) ∧ (n : Int) < (N : Int) := by omega
  have y2 : (N : Int) ≤ 60 := by have := nb; omega
  have y3 : decide ((n : Int) < (N : Int)) = true := by simp; omega
  go_enter Tryd.func17, Tryd.ntmps17
  go_wp2_with fail
  go_quiet (fail)
  go_wp2_with fail
  have q1 : Fs [A, S] w ((w.drewN nq).setCell ⟨A, 3, none⟩ (.int .i64 ((n : Int) + 1))) := (Fs.ofQ ((Q.refl w).drewN nq)).trans (Fs.ofFr ((Fr.refl A _).setCell 3 _) (by simp))
  have hV := put1 H.out nq
  obtain ⟨b1, b4, e4, u0, u1, u2, u3, k0, k1, k2, k3⟩ := put1_cells hV hn
  generalize (w.drewN nq).setCell ⟨A, 3, none⟩ (.int .i64 ((n : Int) + 1)) = V at *
  obtain ⟨v1', u1⟩ := u1
  obtain ⟨v3', u3⟩ := u3
  clear a0 a1 a2 a3 a4 g2 g3 g4 t0 t1 t2 t3 f0 f1 f2 f3
  have hF := put2 hV hn ⟨by omega, ht⟩ v
  have kh := handle_any A S N (n + 1) _ _ _ n _ hF hn (by omega)
  have HF := Lib.hid hF
  have Q1 := Lib.hid q1
  clear hV hF q1 H
  go_still_tail 17, (by kernel_rfl)
  go_wp2_with (go_at_call 29; (with_reducible refine kh.mono ?_); rintro e w9 ⟨rfl, rfl⟩)
  go_ret2
  refine ⟨rfl, HF.out, Q1.out.trans ?_⟩
  exact Fs.thenQ (((((Fs.ofFr ((Fr.refl S V).setCell (n * 4) _) (by simp)).trans (Fs.ofFr ((Fr.refl S _).setCell (n * 4 + 1) _) (by simp))).trans (Fs.ofFr ((Fr.refl S _).setCell (n * 4 + 2) _) (by simp))).trans (Fs.ofFr ((Fr.refl S _).setCell (n * 4 + 3) _) (by simp))).trans (Fs.ofFr ((Fr.refl A _).setCell 4 _) (by simp))) ((Q.refl _).drew)
end Go.Proofs.YtnmgcjkffeeapaaDoor
