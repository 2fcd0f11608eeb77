/- The law's example: works19. -/
import Derived.Test.YtnmgcjkffeeapaaDoorWhM
import Derived.Test.YtnmgcjkffeeapaaDoorWhH
import Derived.Test.YtnmgcjkffeeapaaDoorWhK
import Derived.Deep.DeepCutAuto
namespace Go.Proofs.YtnmgcjkffeeapaaDoor
open Go.RowKit
set_option linter.unusedVariables false
set_option linter.unusedSimpArgs false
theorem winv_nil (t : Nat → Nat) (f : Nat) : Whp.WInv t f (fun _ => false) (fun _ => []) := ⟨fun j => ⟨List.nodup_nil, fun i => by simp⟩, fun i hi => by simp at hi⟩
theorem AdS.start {F : Nat → Prop} {W A Sb M N n : Nat} {T t : Nat → Nat} {idf : Nat → Int} {now u : Nat} {S : Nat → Bool} {fresh : Prop} {w : World} {f : Nat} {rows : Nat → List Nat} (wl : Wl F W A M n T t idf now f n rows w) (wz : Wz A Sb M N n S fresh w) (wi : Whp.WInv t f S rows) (dj : Dj F A Sb M) (hf : f ≤ u + 1) (hT : Tab w) : AdS F W A Sb M N n T t idf now u S w F f rows [] (.slice none 0 0) w :=
  ⟨wl, by rw [Whp.rmv_nil]; exact wz.old, by rw [Whp.rmv_nil]; exact wi, dj, hf, .nil S, fun i hi => (by cases hi), ⟨World.ownsRow_nil _ _ _ _, fun g hg => (by simp [Value.ownBlock] at hg)⟩, Fp.refl _ _, Gw.refl _ _, hT⟩
theorem fp_q {G : Nat → Prop} {a b w : World} (hq : Q w a) (hf : Fp G a b) (hn : ∀ x, G x → w.heap.size ≤ x) : Q w b := by
  have h : Fp G w b := (Fp.ofQ hq).trans hf
  exact ⟨h.1, h.2.1, h.2.2.1, h.size, fun j hj => h.block hj (fun q => by have := hn j q; omega)⟩
theorem tab_pos {w : World} (h : Tab w) : 0 < w.heap.size := lt_of_cell (h 0 (by omega))
set_option maxRecDepth 100000 in
set_option maxHeartbeats 1000000 in
theorem works_at (t : Nat → Nat) (idf : Nat → Int) (ht : ∀ i, t i = 12) (hi : ∀ i, idf i = 7) (w : World) (hT : Tab w) : Calls Tryd.prog 4 #[] w fun e w' => e = .returned (.bool true) ∧ Q w w' := by
  have kn := new_ok 4 10 (fun _ => 0) t idf (by omega) (by omega) w
  rw [show ((4 : Nat) : Int) = 4 from rfl, show ((10 : Nat) : Int) = 10 from rfl] at kn
  have HT := Lib.hid hT
  have Ht := Lib.hid ht
  have Hi := Lib.hid hi
  have keq := fun (w : World) => show (binOp .eql 42 (.agg #[.int .i64 12, .int .i64 7]) (.agg #[.int .i64 12, .int .i64 7])).run Tryd.prog w = .ok (.bool true) w from by kernel_rfl
  clear hT ht hi
  go_enter Tryd.func4, Tryd.ntmps4
  go_wp2_with fail
  (with_reducible refine kn.mono ?_)
  rintro e w1 ⟨W, A, Sb, M, rfl, hw, hz, d1, d2, d3, d4, d5, n1, n2, n3, n4, hq⟩
  have hz0 := tab_pos HT.out
  have hdj : Dj (fun b => b = W) A Sb M := ⟨d1, d2, d3, d4, d5, by omega, by omega, by omega, by omega⟩
  have ka := add_ok hw hz d1 d2 d3 d4 d5 (by omega) (by omega) ⟨by rw [Ht.out]; omega, by rw [Ht.out]; omega⟩ (by omega) (by simp) rfl (fun i hi => by simp at hi)
  rw [Ht.out, Hi.out, show ((12 : Nat) : Int) = 12 from rfl] at ka
  have HQ := Lib.hid hq
  have HD := Lib.hid hdj
  have HN := Lib.hid (And.intro n1 (And.intro n2 (And.intro n3 n4)))
  have HL := Lib.hid hz.lt
  have HW1 : Hid (W < w1.heap.size) := Lib.hid (hw.Fl W rfl)
  clear hw hz d1 d2 d3 d4 d5 n1 n2 n3 n4 hq hdj kn
  go_wp2_with fail
  (with_reducible refine ka.mono ?_)
  rintro e w2 ⟨hd, rfl, F2, b, hw2, hz2, hf2, hg2⟩
  have hT2 : Tab w2 := (HT.out.later HQ.out).fp hf2 (by
    rintro (q | q | q | q)
    · exact HD.out.z0.1 q
    · exact HD.out.z0.2.1 q.symm
    · exact HD.out.z0.2.2.1 q.symm
    · exact HD.out.z0.2.2.2 q.symm)
  have hdj2 : Dj F2 A Sb M := HD.out.gw hg2 HL.out.1 HL.out.2.1 HL.out.2.2
  have hwi := (winv_nil t 11).add (i := 0) rfl (by rw [Ht.out]; omega)
  have hq2 : Q w w2 := fp_q HQ.out hf2 (by
    have := HN.out
    rintro x (q | q | q | q) <;> omega)
  have hG2 : ∀ x, Gb F2 A Sb M x → w.heap.size ≤ x := by
    have h1 := HN.out
    have h2 := HQ.out.size
    rintro x (q | q | q | q)
    · rcases hg2 x q with r | r <;> omega
    · omega
    · omega
    · omega
  have hs := AdS.start (u := 20) hw2 hz2 hwi hdj2 (by omega) hT2
  have kv := advance_ok hs (by omega) (fun i hi => by
    unfold Whp.ins at hi
    split at hi
    · omega
    · cases hi) (fun i hi => by rw [Ht.out]; omega) ⟨by omega, by omega⟩
  rw [show ((20 : Nat) : Int) = 20 from rfl] at kv
  have HQ2 := Lib.hid hq2
  have HG2 := Lib.hid hG2
  clear hw2 hz2 hf2 hg2 hT2 hdj2 hwi hq2 hs ka hG2
  go_wp2_with fail
  (with_reducible refine kv.mono ?_)
  rintro e w3 ⟨v, rfl, F3, rows, d, hs3, hst⟩
  have hd : d = [0] := by
    obtain ⟨h1, h2⟩ := drains_nd hs3.dr
    have h3 : ∀ i ∈ d, i = 0 := fun i hi => by
      have := h2 i hi
      unfold Whp.ins at this
      split at this
      · assumption
      · cases this
    cases d with
    | nil =>
      have := hst 0 (by simp [Whp.rmv, Whp.ins])
      rw [Ht.out] at this
      omega
    | cons x l =>
      have hx := h3 x (by simp)
      subst hx
      cases l with
      | nil => rfl
      | cons y r =>
        have hy := h3 y (by simp)
        subst hy
        simp at h1
  subst hd
  have hq3 : Q w w3 := fp_q HQ2.out hs3.fp HG2.out
  have HQ3 := Lib.hid hq3
  obtain ⟨g, cap, hv, _, _⟩ := hs3.ou.own.form (by simp)
  have ho := hs3.ou.own
  subst hv
  have c0 := ho.cells (g := g) rfl 0 (.int .i64 12) (by simp [fcs, Ht.out])
  have c1 := ho.cells (g := g) rfl 1 (.int .i64 7) (by simp [fcs, Hi.out])
  rw [Addr.add_lit] at c0 c1
  simp only [Nat.zero_add] at c0 c1
  simp only [List.length_singleton]
  clear hs3 hst hq3 ho kv
  go_wp2_with fail
  go_ret
  exact ⟨rfl, HQ3.out⟩
theorem works_ok (w : World) (hT : Tab w) : Calls Tryd.prog 4 #[] w fun e w' => e = .returned (.bool true) ∧ Q w w' := works_at (fun _ => 12) (fun _ => 7) (fun _ => rfl) (fun _ => rfl) w hT
end Go.Proofs.YtnmgcjkffeeapaaDoor
