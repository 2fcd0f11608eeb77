/- The contracts of arena.New, find and Free. -/
import Derived.Test.YtnmgcjkffeeapaaDoorArA
import Derived.OwnWalk
import Derived.Deep.DeepCutAuto
namespace Go.Proofs.YtnmgcjkffeeapaaDoor
open Go.RowKit
set_option linter.unusedVariables false
set_option linter.unusedSimpArgs false
theorem info79 : (Tryd.prog.info? 79).map (fun i => (i.zero, i.size, i.bytes)) = some (some (.agg #[.int .i64 0, .int .i64 0, .bool false, .int .i64 0]), 4, 32) := by kernel_rfl
theorem own_cells {w : World} {base g e size n : Nat} {xs : List Value} (h : w.ownsRow base e size (.slice (some ⟨g, 0, none⟩) n n) n xs) : base ≤ g ∧ (∀ j v, xs[j]? = some v → w.cell? ⟨g, j, none⟩ = some v) ∧ ∀ j, w.frozen? ⟨g, j, none⟩ = false := by
  obtain ⟨h1, h2 | ⟨g', c, cur, h3, h4, h5, h6, h7, h8, h9⟩⟩ := h
  · cases h2.1
  · cases h3
    refine ⟨h4, fun j v hj => ?_, fun j => ?_⟩
    · have := World.ownsRow.cells (w := w) (base := base) (e := e) (size := size) (v := .slice (some ⟨g, 0, none⟩) n n) (n := n) (xs := xs) ⟨h1, .inr ⟨g, n, cur, rfl, h4, h5, h6, h7, h8, h9⟩⟩ rfl j v hj
      simpa [Addr.add_mid] using this
    · simp [World.frozen?, h5]
theorem made4 (N k r : Nat) (v : Value) (hk : k < N) (hr : r < 4) (hv : (#[Value.int .i64 0, .int .i64 0, .bool false, .int .i64 0] : Array Value)[r]? = some v) : (madeCells (Value.agg #[.int .i64 0, .int .i64 0, .bool false, .int .i64 0]).cells (N * 4)).toList[k * 4 + r]? = some v := by
  have e : (Value.agg #[.int .i64 0, .int .i64 0, .bool false, .int .i64 0]).cells = #[.int .i64 0, .int .i64 0, .bool false, .int .i64 0] := rfl
  rw [e]
  simp only [madeCells, Array.getElem?_toList, Array.getElem?_map]
  rw [Array.getElem?_range, if_pos (by omega)]
  simp only [Option.map_some]
  have e2 : (k * 4 + r) % (#[Value.int .i64 0, .int .i64 0, .bool false, .int .i64 0] : Array Value).size = r := by
    show (k * 4 + r) % 4 = r
    omega
  rw [e2]
  have : r = 0 ∨ r = 1 ∨ r = 2 ∨ r = 3 := by omega
  rcases this with rfl | rfl | rfl | rfl <;> first | exact hv | (simp at hv; subst hv; rfl)
theorem anew_ok (N : Nat) (hN : 0 < N ∧ N ≤ 60) (w : World) : Calls Tryd.prog 15 #[.int .i64 (N : Int)] w fun e w' => ∃ A S, e = .returned (.tuple #[.pointer (some ⟨A, 0, none⟩), .int .i64 0]) ∧ w.heap.size ≤ S ∧ S < A ∧ ArAt A S N 0 (fun _ => false) (-1) 0 w' ∧ Q w w' := by
  obtain ⟨i0, hi, hz0, hz1, hz2⟩ := info_parts info79
  obtain ⟨w1, hmk, ho, hg⟩ := run_make_full (P := Tryd.prog) w w.heap.size 75 79 i0 (.agg #[.int .i64 0, .int .i64 0, .bool false, .int .i64 0]) 4 Tryd.underlying75 hi hz0 hz1 .i64 .i64 N (by rw [hz2]; omega) (by unfold maxLen; omega) (Nat.le_refl _)
  have q1 : Q w w1 := (Q.refl w).grown hg (by intro k hk; cases hk)
  have y1 : decide ((N : Int) < 0) = false := decide_eq_false (by omega)
  have y2 : decide ((4096 : Int) < (N : Int)) = false := by simp; omega
  have HO := Lib.hid ho
  clear ho hg hi hz0 hz1 hz2
  go_enter Tryd.func15, Tryd.ntmps15
  go_wp2_with fail
  go_ret2
  obtain ⟨_, hc, hf⟩ := own_cells HO.out
  have lS : w.heap.size < w1.heap.size := by
    have := lt_of_cell (hc 0 (.int .i64 0) (made4 N 0 0 _ (by omega) (by omega) rfl))
    exact this
  have q2 : Q w1 (w1.alloc (.cells #[.bool true, .slice (some ⟨w.heap.size, 0, none⟩) N N, .int .i64 (-1), .int .i64 0, .int .i64 0, .int .i64 0] 77)) := (Q.refl w1).alloc _
  have ca : ∀ k v, (#[Value.bool true, .slice (some ⟨w.heap.size, 0, none⟩) N N, .int .i64 (-1), .int .i64 0, .int .i64 0, .int .i64 0] : Array Value)[k]? = some v → (w1.alloc (.cells #[.bool true, .slice (some ⟨w.heap.size, 0, none⟩) N N, .int .i64 (-1), .int .i64 0, .int .i64 0, .int .i64 0] 77)).cell? ⟨w1.heap.size, k, none⟩ = some v := by
    intro k v hk
    rw [World.cell?]; simp only [heap_alloc_new]; exact hk
  have fa : ∀ k, (w1.alloc (.cells #[.bool true, .slice (some ⟨w.heap.size, 0, none⟩) N N, .int .i64 (-1), .int .i64 0, .int .i64 0, .int .i64 0] 77)).frozen? ⟨w1.heap.size, k, none⟩ = false := by
    intro k
    simp only [World.frozen?, heap_alloc_new]
    simp
  refine ⟨w1.heap.size, w.heap.size, rfl, Nat.le_refl _, lS, ⟨ca 0 _ rfl, ca 1 _ rfl, ca 2 _ rfl, ca 3 _ rfl, ca 4 _ rfl, fa 2, fa 3, fa 4, fun k hk => ?_, fun k hk => ⟨0, ?_⟩, fun k hk => ?_, fun k hk => ⟨0, ?_⟩, fun j hj => ?_, by decide, by omega, hN⟩, q1.trans q2⟩
  · rw [if_neg (by omega)]
    exact keepc q2 (hc _ _ (made4 N k 0 _ hk (by omega) rfl))
  · exact keepc q2 (hc _ _ (made4 N k 1 _ hk (by omega) rfl))
  · exact keepc q2 (hc _ _ (made4 N k 2 _ hk (by omega) rfl))
  · exact keepc q2 (hc _ _ (made4 N k 3 _ hk (by omega) rfl))
  · exact (q2.frozen (p := ⟨w.heap.size, j, none⟩) lS).trans (hf j)
/-- a slot that is taken is found -/
theorem find_any (A S N n : Nat) (alive : Nat → Bool) (fr tk : Int) (k : Nat) (w : World) (h : ArAt A S N n alive fr tk w) (hk : k < N) (hn : k < n) (ha : alive k = true) : Calls Tryd.prog 55 #[.pointer (some ⟨A, 0, none⟩), .int .i64 (4096 + (k : Int))] w fun e w' => e = .returned (.tuple #[.int .i64 (k : Int), .bool true]) ∧ w = w' := by
  have kh := handle_any A S N n alive fr tk k w h hk hn
  have a1 := h.a1
  have s2 := h.s2 k hk
  rw [ha] at s2
  have nb := h.nb
  have y1 : (0 : Int) ≤ (k : Int) ∧ (k : Int) < (N : Int) := by omega
  have y2 : (N : Int) ≤ 60 := by omega
  have y3 : decide (4096 + (k : Int) < 4096) = false := decide_eq_false (by omega)
  have y4 : (4096 + (k : Int)) % 4096 = k := by omega
  have y5 : decide ((k : Int) < (N : Int)) = true := decide_eq_true (by omega)
  clear h hn nb ha
  go_enter Tryd.func55, Tryd.ntmps55
  go_wp2_with (go_at_call 29; (with_reducible refine kh.mono ?_); rintro e w1 ⟨rfl, rfl⟩)
  go_ret2
  exact ⟨rfl, rfl⟩
section
variable {A S N n : Nat} {alive : Nat → Bool} {fr tk : Int} {w : World}
theorem ArAt.setS (h : ArAt A S N n alive fr tk w) (j : Nat) (v : Value) (alive' : Nat → Bool) (hj : (∃ k, k < N ∧ j = k * 4 + 2 ∧ v = .bool (alive' k) ∧ ∀ i, i ≠ k → alive' i = alive i) ∨ (∃ k, k < N ∧ j = k * 4 + 3 ∧ (∃ x : Int, v = .int .i64 x) ∧ alive' = alive)) : ArAt A S N n alive' fr tk (w.setCell ⟨S, j, none⟩ v) := by
  have hf := (Fr.refl S w).setCell j v
  have lA := h.ltA
  refine ⟨(hf.cell lA h.ne 0).trans h.a0, (hf.cell lA h.ne 1).trans h.a1, (hf.cell lA h.ne 2).trans h.a2, (hf.cell lA h.ne 3).trans h.a3, (hf.cell lA h.ne 4).trans h.a4, by rw [World.frozen?_setCell]; exact h.g2, by rw [World.frozen?_setCell]; exact h.g3, by rw [World.frozen?_setCell]; exact h.g4, fun i hi => ?_, fun i hi => ?_, fun i hi => ?_, fun i hi => ?_, fun i hi => by rw [World.frozen?_setCell]; exact h.sf i hi, h.bd, h.ne, h.nb⟩
  · rw [sc_ne _ _ _ _ _ (by rcases hj with ⟨k, _, e, _⟩ | ⟨k, _, e, _⟩ <;> omega)]; exact h.s0 i hi
  · rw [sc_ne _ _ _ _ _ (by rcases hj with ⟨k, _, e, _⟩ | ⟨k, _, e, _⟩ <;> omega)]; exact h.s1 i hi
  · rcases hj with ⟨k, hk, e, hv, hal⟩ | ⟨k, _, e, _, hal⟩
    · by_cases q : i = k
      · subst q
        rw [e, World.cell?_setCell_same _ _ _ (h.s2 i hi), hv]
      · rw [sc_ne _ _ _ _ _ (by omega), hal i q]; exact h.s2 i hi
    · rw [sc_ne _ _ _ _ _ (by omega), hal]; exact h.s2 i hi
  · rcases hj with ⟨k, hk, e, hv, hal⟩ | ⟨k, _, e, ⟨x, hx⟩, hal⟩
    · rw [sc_ne _ _ _ _ _ (by omega)]; exact h.s3 i hi
    · by_cases q : i = k
      · subst q
        obtain ⟨u, hu⟩ := h.s3 i hi
        exact ⟨x, by rw [e, World.cell?_setCell_same _ _ _ hu, hx]⟩
      · rw [sc_ne _ _ _ _ _ (by omega)]; exact h.s3 i hi
theorem ArAt.setF (h : ArAt A S N n alive fr tk w) (x : Int) (hx : -1 ≤ x ∧ x < 60) : ArAt A S N n alive x tk (w.setCell ⟨A, 2, none⟩ (.int .i64 x)) := by
  have hf := (Fr.refl A w).setCell 2 (.int .i64 x)
  have lS := h.ltS
  have hne := Ne.symm h.ne
  exact ⟨(sc_ne _ _ _ _ _ (by decide)).trans h.a0, (sc_ne _ _ _ _ _ (by decide)).trans h.a1, World.cell?_setCell_same _ _ _ h.a2, (sc_ne _ _ _ _ _ (by decide)).trans h.a3, (sc_ne _ _ _ _ _ (by decide)).trans h.a4, by rw [World.frozen?_setCell]; exact h.g2, by rw [World.frozen?_setCell]; exact h.g3, by rw [World.frozen?_setCell]; exact h.g4, fun k hk => (hf.cell lS hne _).trans (h.s0 k hk), fun k hk => (h.s1 k hk).imp fun v hv => (hf.cell lS hne _).trans hv, fun k hk => (hf.cell lS hne _).trans (h.s2 k hk), fun k hk => (h.s3 k hk).imp fun v hv => (hf.cell lS hne _).trans hv, fun j hj => by rw [World.frozen?_setCell]; exact h.sf j hj, ⟨hx.1, hx.2, h.bd.2.2⟩, h.ne, h.nb⟩
theorem ArAt.setT (h : ArAt A S N n alive fr tk w) (x : Int) (hx : -60 ≤ x ∧ x ≤ 60) : ArAt A S N n alive fr x (w.setCell ⟨A, 4, none⟩ (.int .i64 x)) := by
  have hf := (Fr.refl A w).setCell 4 (.int .i64 x)
  have lS := h.ltS
  have hne := Ne.symm h.ne
  exact ⟨(sc_ne _ _ _ _ _ (by decide)).trans h.a0, (sc_ne _ _ _ _ _ (by decide)).trans h.a1, (sc_ne _ _ _ _ _ (by decide)).trans h.a2, (sc_ne _ _ _ _ _ (by decide)).trans h.a3, World.cell?_setCell_same _ _ _ h.a4, by rw [World.frozen?_setCell]; exact h.g2, by rw [World.frozen?_setCell]; exact h.g3, by rw [World.frozen?_setCell]; exact h.g4, fun k hk => (hf.cell lS hne _).trans (h.s0 k hk), fun k hk => (h.s1 k hk).imp fun v hv => (hf.cell lS hne _).trans hv, fun k hk => (hf.cell lS hne _).trans (h.s2 k hk), fun k hk => (h.s3 k hk).imp fun v hv => (hf.cell lS hne _).trans hv, fun j hj => by rw [World.frozen?_setCell]; exact h.sf j hj, ⟨h.bd.1, h.bd.2.1, hx.1, hx.2⟩, h.ne, h.nb⟩
end
set_option maxRecDepth 100000 in
/-- a slot is freed -/
theorem free_ok (A S N n : Nat) (alive : Nat → Bool) (fr tk : Int) (k : Nat) (w : World) (h : ArAt A S N n alive fr tk w) (hk : k < N) (hn : k < n) (ha : alive k = true) (ht : -60 < tk) : Calls Tryd.prog 40 #[.pointer (some ⟨A, 0, none⟩), .int .i64 (4096 + (k : Int))] w fun e w' => e = .returned (.int .i64 0) ∧ ArAt A S N n (fun i => if i = k then false else alive i) (k : Int) (tk - 1) w' ∧ Fs [A, S] w w' := by
  have kf := find_any A S N n alive fr tk k w h hk hn ha
  have h1 := h.setS (k * 4 + 2) (.bool false) (fun i => if i = k then false else alive i) (.inl ⟨k, hk, rfl, by simp, fun i hi => by simp [hi]⟩)
  have b0 := h.bd
  have h2 := h1.setT (tk - 1) (by omega)
  have a0 := h.a0
  have a1 := h.a1
  have a4 := h1.a4
  have g4 := h1.g4
  have s2 := h.s2 k hk
  have f2 := h.sf (k * 4 + 2) (by omega)
  have ne := h.ne
  have nb := h.nb
  have y1 : (0 : Int) ≤ (k : Int) ∧ (k : Int) < (N : Int) := by omega
  have y2 : (N : Int) ≤ 60 := by omega
  have F2 : Fs [A, S] w ((w.setCell ⟨S, k * 4 + 2, none⟩ (.bool false)).setCell ⟨A, 4, none⟩ (.int .i64 (tk - 1))) := (Fs.ofFr ((Fr.refl S w).setCell (k * 4 + 2) _) (by simp)).trans (Fs.ofFr ((Fr.refl A _).setCell 4 _) (by simp))
  have H2 := Lib.hid h2
  have a1' := h1.a1
  clear h h1 h2
  go_enter Tryd.func40, Tryd.ntmps40
  go_upto_region 8 with (go_at_call 55; (with_reducible refine kf.mono ?_); rintro e w1 ⟨rfl, rfl⟩)
  have c1 := H2.out.a1
  have c2 := H2.out.a2
  have c3 := H2.out.s0 k hk
  rw [if_pos hn] at c3
  obtain ⟨v3, c4⟩ := H2.out.s3 k hk
  have c5 := H2.out.sf (k * 4 + 3) (by omega)
  clear a0 a1 a4 g4 s2 f2 a1' kf
  generalize (w.setCell ⟨S, k * 4 + 2, none⟩ (.bool false)).setCell ⟨A, 4, none⟩ (.int .i64 (tk - 1)) = V at *
  go_wp2_with fail
  have h3 := H2.out.setS (k * 4 + 3) (.int .i64 fr) _ (.inr ⟨k, hk, rfl, ⟨fr, rfl⟩, rfl⟩)
  have h4 := (h3.setF (k : Int) (by omega)).q (Q.refl _).drew
  have c6 := h3.a2
  have c7 := h3.g2
  have H4 := Lib.hid h4
  clear h3 h4
  go_still_tail 11, (by kernel_rfl)
  go_wp2_with fail
  go_ret
  exact ⟨rfl, H4.out, F2.trans (((Fs.ofFr ((Fr.refl S V).setCell (k * 4 + 3) _) (by simp)).trans (Fs.ofFr ((Fr.refl A _).setCell 2 _) (by simp))).thenQ (Q.refl _).drew)⟩
end Go.Proofs.YtnmgcjkffeeapaaDoor
