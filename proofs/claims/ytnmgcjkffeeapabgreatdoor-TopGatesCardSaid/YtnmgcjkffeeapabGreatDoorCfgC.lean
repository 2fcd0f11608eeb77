/- The contracts of config's Check and Caps at one job. -/
import Derived.Test.YtnmgcjkffeeapabGreatDoorCfgB
namespace Go.Proofs.YtnmgcjkffeeapabGreatDoor
open Go.RowKit Go.MapKept
set_option linter.unusedVariables false
set_option linter.unusedSimpArgs false
/-- what the three rules say of a job whose cells are js: b: the third one is broken -/
structure Jobs3 (js : List Value) (b : Bool) : Prop where
  len : js.length = 30
  k1 : ∀ w, Calls Tryz.prog 63 #[.agg js.toArray] w fun e w' => e = .returned (.bool true) ∧ Q w w'
  k2 : ∀ S M w, w.cell? ⟨S, 0, none⟩ = some (.map (some M)) → w.heap[M]? = some (.map #[] 0) → Calls Tryz.prog 65 #[.agg js.toArray, .pointer (some ⟨S, 0, none⟩)] w fun e w' => e = .returned (.bool true) ∧ Fr M w w'
  k3 : ∀ w, Calls Tryz.prog 66 #[.agg js.toArray] w fun e w' => e = .returned (.bool (!b)) ∧ Q w w'
theorem jc63 {js : List Value} {b : Bool} (h : Jobs3 js b) (r c J : Nat) (w : World) (hJ : w.rangeAt J 0 js) (hr : w.cell? ⟨r, 0, none⟩ = some (.func (.func 63) #[] #[])) : Calls Tryz.prog 57 #[.slice (some ⟨J, 0, none⟩) 1 c, .func (.func 58) #[] #[.pointer (some ⟨r, 0, none⟩)]] w fun e w' => e = .returned (.bool false) ∧ Q w w' :=
  jcont_any r c J js h.len false (Q w) w hJ (chk63_any r js h.len w hr h.k1)
theorem jc65 {js : List Value} {b : Bool} (h : Jobs3 js b) (r c J S M : Nat) (w : World) (hJ : w.rangeAt J 0 js) (hr : w.cell? ⟨r, 0, none⟩ = some (.func (.func 65) #[] #[.pointer (some ⟨S, 0, none⟩)])) (hS : w.cell? ⟨S, 0, none⟩ = some (.map (some M))) (hM : w.heap[M]? = some (.map #[] 0)) : Calls Tryz.prog 57 #[.slice (some ⟨J, 0, none⟩) 1 c, .func (.func 58) #[] #[.pointer (some ⟨r, 0, none⟩)]] w fun e w' => e = .returned (.bool false) ∧ Fr M w w' :=
  jcont_any r c J js h.len false (Fr M w) w hJ (chk65_any r S M js h.len w hr hS hM (h.k2 S M))
theorem jc66 {js : List Value} {b : Bool} (h : Jobs3 js b) (r c J : Nat) (w : World) (hJ : w.rangeAt J 0 js) (hr : w.cell? ⟨r, 0, none⟩ = some (.func (.func 66) #[] #[])) : Calls Tryz.prog 57 #[.slice (some ⟨J, 0, none⟩) 1 c, .func (.func 58) #[] #[.pointer (some ⟨r, 0, none⟩)]] w fun e w' => e = .returned (.bool b) ∧ Q w w' :=
  jcont_any r c J js h.len b (Q w) w hJ (chk66_any b r js h.len w hr h.k3)
theorem lt_of_range {w : World} {J : Nat} {js : List Value} (h : w.rangeAt J 0 js) (hl : js.length = 30) : J < w.heap.size := by
  have := lt_of_cell (h 0 (js[0]'(by omega)) (by simp))
  exact this
/-- what is kept while Check goes through the rules -/
structure Go3 (js : List Value) (C J B S M : Nat) (W w : World) : Prop where
  j : w.rangeAt J 0 js
  r : RuAt B S M w
  q : Q W w
  m : W.heap.size ≤ M ∧ M < S ∧ S < B
  c : w.cell? ⟨C, 7, none⟩ = some (.slice (some ⟨J, 0, none⟩) 1 1)
  l : C < W.heap.size ∧ J < W.heap.size
theorem Go3.q' {js : List Value} {C J B S M : Nat} {W w w' : World} (h : Go3 js C J B S M W w) (q : Q w w') : Go3 js C J B S M W w' := by
  have := h.q.size
  have hl := h.l
  exact ⟨range_q h.j (by omega) q, h.r.q q, h.q.trans q, h.m, (q.cell (p := ⟨C, 7, none⟩) (show C < w.heap.size by omega)).trans h.c, hl⟩
theorem Go3.f' {js : List Value} {C J B S M : Nat} {W w w' : World} (h : Go3 js C J B S M W w) (f : Fr M w w') : Go3 js C J B S M W w' := by
  have hm := h.m
  have := h.q.size
  have hl := h.l
  exact ⟨range_fr h.j (by omega) f (by omega), h.r.fr f (by omega) (by omega), Below.trans h.q (below_of f hm.1 h.q.size), hm, (f.cell (by omega) (by omega) 7).trans h.c, hl⟩
theorem Go3.lt {js : List Value} {C J B S M : Nat} {W w : World} (h : Go3 js C J B S M W w) : B < w.heap.size ∧ C < w.heap.size := ⟨lt_of_cell h.r.1, lt_of_cell h.c⟩
theorem cell_new (w : World) (v0 v1 : Value) (t : TypeId) : (w.alloc (.cells #[v0, v1] t)).cell? ⟨w.heap.size, 0, none⟩ = some v0 := by
  rw [World.cell?]
  simp only [World.alloc_heap_new]
  rfl
def E3 (js : List Value) (C J B S M : Nat) (W : World) (r : Bool) (e : Ending) (w' : World) : Prop := e = .returned (.bool r) ∧ Go3 js C J B S M W w'
theorem rc63 {js : List Value} {b : Bool} {C J B S M : Nat} {W w : World} (h : Jobs3 js b) (G : Go3 js C J B S M W w) (hM : w.heap[M]? = some (.map #[] 0)) : Calls Tryz.prog 57 #[.slice (some ⟨J, 0, none⟩) 1 1, .func (.func 58) #[] #[.pointer (some ⟨w.heap.size, 0, none⟩)]] (w.alloc (.cells #[.func (.func 63) #[] #[], .int .i64 15] 110)) fun e w' => e = .returned (.bool false) ∧ Go3 js C J B S M W w' ∧ w'.heap[M]? = some (.map #[] 0) := by
  have q := (Q.refl w).alloc (.cells #[.func (.func 63) #[] #[], .int .i64 15] 110)
  have hml : M < w.heap.size := (Array.getElem?_eq_some_iff.1 hM).1
  refine (jc63 h _ _ J _ (G.q' q).j (cell_new _ _ _ _)).mono fun e w' ⟨he, hq⟩ => ⟨he, G.q' (q.trans hq), ((q.trans hq).block M hml).trans hM⟩
theorem rc65 {js : List Value} {b : Bool} {C J B S M : Nat} {W w : World} (h : Jobs3 js b) (G : Go3 js C J B S M W w) (hM : w.heap[M]? = some (.map #[] 0)) : Calls Tryz.prog 57 #[.slice (some ⟨J, 0, none⟩) 1 1, .func (.func 58) #[] #[.pointer (some ⟨w.heap.size, 0, none⟩)]] (w.alloc (.cells #[.func (.func 65) #[] #[.pointer (some ⟨S, 0, none⟩)], .int .i64 6] 110)) fun e w' => e = .returned (.bool false) ∧ Go3 js C J B S M W w' := by
  have q := (Q.refl w).alloc (.cells #[.func (.func 65) #[] #[.pointer (some ⟨S, 0, none⟩)], .int .i64 6] 110)
  have hml : M < w.heap.size := (Array.getElem?_eq_some_iff.1 hM).1
  have G' := G.q' q
  refine (jc65 h _ _ J S M _ G'.j (cell_new _ _ _ _) G'.r.2.2.2.2.2.2 ((q.block M hml).trans hM)).mono fun e w' ⟨he, hf⟩ => ⟨he, G'.f' hf⟩
theorem rc66 {js : List Value} {b : Bool} {C J B S M : Nat} {W w : World} (h : Jobs3 js b) (G : Go3 js C J B S M W w) : Calls Tryz.prog 57 #[.slice (some ⟨J, 0, none⟩) 1 1, .func (.func 58) #[] #[.pointer (some ⟨w.heap.size, 0, none⟩)]] (w.alloc (.cells #[.func (.func 66) #[] #[], .int .i64 16] 110)) fun e w' => e = .returned (.bool b) ∧ Go3 js C J B S M W w' ∧ w'.cell? ⟨w.heap.size, 1, none⟩ = some (.int .i64 16) := by
  have q := (Q.refl w).alloc (.cells #[.func (.func 66) #[] #[], .int .i64 16] 110)
  have h1 : (w.alloc (.cells #[.func (.func 66) #[] #[], .int .i64 16] 110)).cell? ⟨w.heap.size, 1, none⟩ = some (.int .i64 16) := by
    rw [World.cell?]
    simp only [World.alloc_heap_new]
    rfl
  refine (jc66 h _ _ J _ (G.q' q).j (cell_new _ _ _ _)).mono fun e w' ⟨he, hq⟩ => ⟨he, G.q' (q.trans hq), (hq.cell (p := ⟨w.heap.size, 1, none⟩) (by simp)).trans h1⟩
theorem mk3 {js : List Value} {J B S M : Nat} {w w1 w2 : World} {gs : Array Value} {t : TypeId} (hJ : w.rangeAt J 0 js) (hl : js.length = 30) (hg : gs.size = 8) (h7 : gs[7]? = some (.slice (some ⟨J, 0, none⟩) 1 1)) (q1 : Q (w.alloc (.cells gs t)) w1) (q2 : Q w1 w2) (hR : RuAt B S M w2) (hm : w1.heap.size ≤ M ∧ M < S ∧ S < B) : Go3 js w.heap.size J B S M (w.alloc (.cells gs t)) w2 := by
  have hJl := lt_of_range hJ hl
  have z1 := q1.size
  have q := q1.trans q2
  refine ⟨range_q hJ hJl (((Q.refl w).alloc _).trans q), hR, q, ⟨by omega, hm.2⟩, ?_, by simp; omega⟩
  refine (q.cell (p := ⟨w.heap.size, 7, none⟩) (by simp)).trans ?_
  rw [World.cell?]
  simp only [World.alloc_heap_new]
  simp [h7]
set_option maxHeartbeats 4000000 in
set_option maxRecDepth 20000 in
theorem check_any (js : List Value) (b : Bool) (h : Jobs3 js b) (gc T U : Int) (hg : 1 ≤ gc ∧ gc ≤ 1000) (J : Nat) (w : World) (hJ : w.rangeAt J 0 js) :
    Calls Tryz.prog 46 #[.agg #[.int .i64 gc, .int .i64 1, .int .i64 0, .int .i64 1, .int .u64 0, .int .i64 T, .int .i64 U, .slice (some ⟨J, 0, none⟩) 1 1]] w fun e w' => e = .returned (.int .i64 (if limE T U = 0 then (if b then 16 else 0) else 16)) ∧ Q w w' := by
  have kg := fun w2 => glob_any gc T U hg w2
  have hv : limE T U = 0 ∨ limE T U = 16 := rl_vals _
  obtain ⟨le, hle⟩ : ∃ x, limE T U = x := ⟨_, rfl⟩
  rw [hle] at kg hv ⊢
  clear hle hg
  have hJl := lt_of_range hJ h.len
  have HJ := Lib.hid hJ
  have HL := Lib.hid h.len
  clear hJ
  rcases hv with rfl | rfl
  · cases b
    · go_enter Tryz.func46, Tryz.ntmps46
      go_wp2_with (first
        | (go_at_call 55; (with_reducible refine (kg _).mono ?_); rintro e w1 ⟨rfl, q1⟩; obtain ⟨x1, x2, x3⟩ := qcell q1)
        | (go_at_call 56; (with_reducible refine (rules_any _).mono ?_); rintro e w2 ⟨B, S, M, rfl, hR, hM, hm, q2⟩; have G := mk3 HJ.out HL.out (by rfl) (by rfl) q1 q2 hR hm; clear q1 q2 x1 x2 x3 hm hR; obtain ⟨hB, hC⟩ := G.lt; obtain ⟨r1, r2, r3, r4, r5, r6, r7⟩ := id G.r; have hc := G.c))
      have nM := Lib.hid hM
      clear hM
      refine wp_loop_rounds 4 ?_; rw [rounds_succ]
      go_wp2_with (go_at_call 57; (with_reducible refine (rc63 h G nM.out).mono ?_); rintro e w3 ⟨rfl, G3, hM3⟩)
      clear hB hC r1 r2 r3 r4 r5 r6 r7 hc nM
      have nM := Lib.hid hM3
      obtain ⟨hB, hC⟩ := G3.lt
      obtain ⟨r1, r2, r3, r4, r5, r6, r7⟩ := id G3.r
      have hc := G3.c
      clear G hM3
      rw [rounds_succ]
      go_wp2_with (go_at_call 57; (with_reducible refine (rc65 h G3 nM.out).mono ?_); rintro e w4 ⟨rfl, G4⟩)
      clear hB hC r1 r2 r3 r4 r5 r6 r7 hc nM
      obtain ⟨hB, hC⟩ := G4.lt
      obtain ⟨r1, r2, r3, r4, r5, r6, r7⟩ := id G4.r
      have hc := G4.c
      clear G3
      rw [rounds_succ]
      go_wp2_with (go_at_call 57; (with_reducible refine (rc66 h G4).mono ?_); rintro e w5 ⟨rfl, G5, h16⟩; have hz5 := G5.lt)
      clear hB hC r1 r2 r3 r4 r5 r6 r7 hc h16
      rw [rounds_succ]
      go_wp2_with fail
      go_ret
      exact ⟨rfl, ((Q.refl w).alloc _).trans G5.q⟩
    · go_enter Tryz.func46, Tryz.ntmps46
      go_wp2_with (first
        | (go_at_call 55; (with_reducible refine (kg _).mono ?_); rintro e w1 ⟨rfl, q1⟩; obtain ⟨x1, x2, x3⟩ := qcell q1)
        | (go_at_call 56; (with_reducible refine (rules_any _).mono ?_); rintro e w2 ⟨B, S, M, rfl, hR, hM, hm, q2⟩; have G := mk3 HJ.out HL.out (by rfl) (by rfl) q1 q2 hR hm; clear q1 q2 x1 x2 x3 hm hR; obtain ⟨hB, hC⟩ := G.lt; obtain ⟨r1, r2, r3, r4, r5, r6, r7⟩ := id G.r; have hc := G.c))
      have nM := Lib.hid hM
      clear hM
      refine wp_loop_rounds 4 ?_; rw [rounds_succ]
      go_wp2_with (go_at_call 57; (with_reducible refine (rc63 h G nM.out).mono ?_); rintro e w3 ⟨rfl, G3, hM3⟩)
      clear hB hC r1 r2 r3 r4 r5 r6 r7 hc nM
      have nM := Lib.hid hM3
      obtain ⟨hB, hC⟩ := G3.lt
      obtain ⟨r1, r2, r3, r4, r5, r6, r7⟩ := id G3.r
      have hc := G3.c
      clear G hM3
      rw [rounds_succ]
      go_wp2_with (go_at_call 57; (with_reducible refine (rc65 h G3 nM.out).mono ?_); rintro e w4 ⟨rfl, G4⟩)
      clear hB hC r1 r2 r3 r4 r5 r6 r7 hc nM
      obtain ⟨hB, hC⟩ := G4.lt
      obtain ⟨r1, r2, r3, r4, r5, r6, r7⟩ := id G4.r
      have hc := G4.c
      clear G3
      rw [rounds_succ]
      go_wp2_with (go_at_call 57; (with_reducible refine (rc66 h G4).mono ?_); rintro e w5 ⟨rfl, G5, h16⟩; have hz5 := G5.lt)
      go_ret
      exact ⟨rfl, ((Q.refl w).alloc _).trans G5.q⟩
  · go_enter Tryz.func46, Tryz.ntmps46
    go_wp2_with (go_at_call 55; (with_reducible refine (kg _).mono ?_); rintro e w1 ⟨rfl, q1⟩)
    go_ret
    exact ⟨rfl, ((Q.refl w).alloc _).trans q1⟩
end Go.Proofs.YtnmgcjkffeeapabGreatDoor
