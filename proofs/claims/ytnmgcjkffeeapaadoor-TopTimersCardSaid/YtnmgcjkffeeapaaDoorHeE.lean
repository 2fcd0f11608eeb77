/- The contracts of the heap's made, Has, Len, Top and New. -/
import Derived.Test.YtnmgcjkffeeapaaDoorHeA
namespace Go.Proofs.YtnmgcjkffeeapaaDoor
open Go.RowKit
set_option linter.unusedVariables false
set_option linter.unusedSimpArgs false
theorem neqF (w : World) : (binOp .neq 31 (.func (.func 7) #[] #[]) .nilFunc).run Tryd.prog w = .ok (.bool true) w := by kernel_rfl
theorem eqlF (w : World) : (binOp .eql 31 (.func (.func 7) #[] #[]) .nilFunc).run Tryd.prog w = .ok (.bool false) w := by kernel_rfl
section
variable {F : Nat → Prop} {H M : Nat} {v : Value} {l : List En} {ps B : Int} {w : World}
set_option maxRecDepth 100000 in
theorem made_ok (h : HeAt F H M v l ps B w) : Calls Tryd.prog 19 #[.pointer (some ⟨H, 0, none⟩)] w fun e w' => e = .returned (.bool true) ∧ w = w' := by
  have c0 := h.c0
  clear h
  unfold lessV at c0
  have kn := fun w2 => neqF w2
  go_enter Tryd.func19, Tryd.ntmps19
  go_wp2_with fail
  go_ret
  exact ⟨rfl, rfl⟩
theorem has_no (h : HeAt F H M v l ps B w) (k : Int) (hk : B ≤ k) : Calls Tryd.prog 20 #[.pointer (some ⟨H, 0, none⟩), .int .i64 k] w fun e w' => e = .returned (.bool false) ∧ w = w' := by
  have km := made_ok h
  have c2 := h.c2
  obtain ⟨ks, m0, hnd, hkb⟩ := h.mp
  obtain ⟨x, hx⟩ := mp_look (P := Tryd.prog) m0 Tryd.underlying56 Tryd.underlying3 (Tryd.zeroValue3 _) k
  have hn : k ∉ ks := fun q => by have := hkb k q; omega
  rw [decide_eq_false hn] at hx
  clear h m0 hnd hkb hn hk
  go_enter Tryd.func20, Tryd.ntmps20
  go_wp2_with (go_at_call 19; (with_reducible refine km.mono ?_); rintro e w2 ⟨rfl, rfl⟩)
  go_ret
  exact ⟨rfl, rfl⟩
theorem hlen_ok (h : HeAt F H M v l ps B w) : Calls Tryd.prog 13 #[.pointer (some ⟨H, 0, none⟩)] w fun e w' => e = .returned (.int .i64 (l.length : Int)) ∧ w = w' := by
  have km := made_ok h
  have c1 := h.c1
  rcases h.row.2 with ⟨rfl, hl⟩ | ⟨g, cap, cur, rfl, _⟩
  · rw [hl]
    clear h hl
    go_enter Tryd.func13, Tryd.ntmps13
    go_wp2_with (go_at_call 19; (with_reducible refine km.mono ?_); rintro e w2 ⟨rfl, rfl⟩)
    go_ret
    exact ⟨rfl, rfl⟩
  · clear h
    generalize l.length = n at *
    go_enter Tryd.func13, Tryd.ntmps13
    go_wp2_with (go_at_call 19; (with_reducible refine km.mono ?_); rintro e w2 ⟨rfl, rfl⟩)
    go_ret
    exact ⟨rfl, rfl⟩
theorem top_no (h : HeAt F H M v l ps B w) (hl : l.length = 0) : Calls Tryd.prog 12 #[.pointer (some ⟨H, 0, none⟩)] w fun e w' => e = .returned (.tuple #[.int .i64 0, .bool false]) ∧ w = w' := by
  have km := hlen_ok h
  rw [hl] at km
  clear h hl
  go_enter Tryd.func12, Tryd.ntmps12
  go_wp2_with (go_at_call 13; (with_reducible refine km.mono ?_); rintro e w2 ⟨rfl, rfl⟩)
  go_ret2
  exact ⟨rfl, rfl⟩
theorem top_yes (h : HeAt F H M v l ps B w) (hl : 0 < l.length) : Calls Tryd.prog 12 #[.pointer (some ⟨H, 0, none⟩)] w fun e w' => e = .returned (.tuple #[.int .i64 (Hep.g l 0).id, .bool true]) ∧ w = w' := by
  have km := hlen_ok h
  obtain ⟨g, cap, rfl⟩ := h.slice hl
  have c1 := h.c1
  have i0 := (row_cell h.row hl).1
  rw [Nat.zero_mul] at i0
  have y1 : ((l.length : Int) == 0) = false := beq_f (by omega)
  have y2 : (0 : Int) < (l.length : Int) := by omega
  clear h
  generalize l.length = n at *
  generalize (Hep.g l 0).id = a at *
  go_enter Tryd.func12, Tryd.ntmps12
  go_wp2_with (go_at_call 13; (with_reducible refine km.mono ?_); rintro e w2 ⟨rfl, rfl⟩)
  go_ret2
  exact ⟨rfl, rfl⟩
end
theorem hnew_at (w : World) (M : Nat) (hM : w.heap[M]? = some (.map #[] 0)) : HeAt (fun b => b = w.heap.size ∨ b = M) w.heap.size M (.slice none 0 0) [] 0 0 (w.alloc (.cells #[lessV, .slice none 0 0, .map (some M), .int .i64 0] 59)) := by
  have lM : M < w.heap.size := (Array.getElem?_eq_some_iff.1 hM).1
  have ca : ∀ k v, (#[lessV, .slice none 0 0, .map (some M), .int .i64 0] : Array Value)[k]? = some v → (w.alloc (.cells #[lessV, .slice none 0 0, .map (some M), .int .i64 0] 59)).cell? ⟨w.heap.size, k, none⟩ = some v := by
    intro k v hk
    rw [World.cell?]; simp only [heap_alloc_new]; exact hk
  have fa : ∀ k, (w.alloc (.cells #[lessV, .slice none 0 0, .map (some M), .int .i64 0] 59)).frozen? ⟨w.heap.size, k, none⟩ = false := by
    intro k
    simp only [World.frozen?, heap_alloc_new]
    simp
  refine ⟨ca 0 _ rfl, ca 1 _ rfl, ca 2 _ rfl, ca 3 _ rfl, fa 1, fa 3, World.ownsRow_nil _ _ _ _, ⟨[], ⟨#[], 0, ?_, by simp, by simp⟩, by simp, by simp⟩, by simp, .inl rfl, .inr rfl, fun g hg => by simp [Value.ownBlock] at hg, fun b hb => ?_, by omega⟩
  · exact (heap_alloc_old w _ lM).trans hM
  · rcases hb with q | q
    · rw [q]; simp
    · rw [q]; simp; omega
set_option maxRecDepth 100000 in
theorem hnew_ok (w : World) : Calls Tryd.prog 6 #[lessV] w fun e w' => ∃ H M, e = .returned (.pointer (some ⟨H, 0, none⟩)) ∧ w.heap.size ≤ H ∧ w.heap.size ≤ M ∧ HeAt (fun b => b = H ∨ b = M) H M (.slice none 0 0) [] 0 0 w' ∧ Q w w' := by
  have hmm := @run_makeMap Tryd.prog
  unfold lessV
  have kn := fun w2 => eqlF w2
  go_enter Tryd.func6, Tryd.ntmps6
  go_wp2_with fail
  go_ret
  have hn := hnew_at (w.alloc (.map #[] 0)) w.heap.size (heap_alloc_new w _)
  rw [size_heap_alloc'] at hn
  exact ⟨w.heap.size + 1, w.heap.size, rfl, by omega, by omega, hn, ((Q.refl _).alloc _).alloc _⟩
end Go.Proofs.YtnmgcjkffeeapaaDoor
