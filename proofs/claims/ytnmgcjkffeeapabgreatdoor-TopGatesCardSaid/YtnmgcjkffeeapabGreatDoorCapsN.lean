/- The contract of caps.New, for one job. -/
import Derived.Test.YtnmgcjkffeeapabGreatDoorCaps
import Derived.Laws.IdiomCopy
import Derived.Lib.SlBuf
import Derived.RangeFuncRecord
namespace Go.Proofs.YtnmgcjkffeeapabGreatDoor
open Go.RowKit
set_option linter.unusedVariables false
set_option linter.unusedSimpArgs false
theorem beyond_no (n : Int) (h : 0 ≤ n ∧ n ≤ 1000) (w : World) : Calls Tryz.prog 22 #[.int .i64 n] w fun e w' => e = .returned (.bool false) ∧ w = w' := by
  have y1 : decide (n < 0) = false := by simp; omega
  have y2 : decide (1000 < n) = false := by simp; omega
  go_enter Tryz.func22, Tryz.ntmps22
  go_wp2
  go_ret
  exact ⟨rfl, rfl⟩
theorem idx1_none (e c : Nat) (m : Int) (h : 0 ≤ m ∧ m ≤ 1000) (w : World) (hc : w.cell? ⟨e, 0, none⟩ = some (.int .i64 m)) :
    Calls Tryz.prog 47 #[.slice (some ⟨e, 0, none⟩) 1 c, .func (.func 22) #[] #[]] w fun e w' => e = .returned (.int .i64 (-1)) ∧ Q w w' := by
  have kb := fun w2 => beyond_no m h w2
  go_enter Tryz.func47, Tryz.ntmps47
  go_wp2_with fail
  refine wp_loop_rounds 2 ?_; rw [rounds_succ]
  go_wp2_with (go_at_call 22; refine (kb _).mono ?_; rintro e w2 ⟨rfl, rfl⟩)
  rw [rounds_succ]
  go_wp2_with fail
  go_ret
  exact ⟨rfl, by repeat (first | exact Q.refl _ | refine Q.drew ?_ | refine Q.drewN ?_ _)⟩
theorem cont1_none (e c : Nat) (m : Int) (h : 0 ≤ m ∧ m ≤ 1000) (w : World) (hc : w.cell? ⟨e, 0, none⟩ = some (.int .i64 m)) :
    Calls Tryz.prog 23 #[.slice (some ⟨e, 0, none⟩) 1 c, .func (.func 22) #[] #[]] w fun e w' => e = .returned (.bool false) ∧ Q w w' := by
  have ki := idx1_none e c m h w hc
  go_enter Tryz.func23, Tryz.ntmps23
  go_wp2_with (go_at_call 47; refine ki.mono ?_; rintro e w2 ⟨rfl, q2⟩)
  go_ret
  exact ⟨rfl, q2⟩
theorem copy1 (w : World) (b e c : Nat) (v : Int) (u : Value) (he : w.cell? ⟨e, 0, none⟩ = some (.int .i64 v)) (hb : w.cell? ⟨b, 3, none⟩ = some u) (hf : w.frozen? ⟨b, 3, none⟩ = false) :
    (Builtin.copy_ #[54, 54] 3 #[.slice (some ⟨b, 3, none⟩) 64 64, .slice (some ⟨e, 0, none⟩) 1 c]).run Tryz.prog w = .ok (.int .i64 1) (w.setCell ⟨b, 3, none⟩ (.int .i64 v)) := by
  have := run_copy_cells (P := Tryz.prog) w 54 54 3 3 b 3 64 64 ⟨e, 0, none⟩ 1 c [.int .i64 v] Tryz.underlying54 (by kernel_rfl) rfl
    (fun j x hj => by match j, hj with | 0, hj => (simp at hj; subst hj; simpa [Addr.add] using he))
    (fun j hj => by
      obtain rfl : j = 0 := by simpa using hj
      simp [hb])
    (fun j hj => by
      obtain rfl : j = 0 := by simpa using hj
      simpa using hf)
    (by simp [Value.oneCell'])
  rw [this]
  simp [goInt, World.setCells]
def Ca.fresh (al mo : Int) : Ca := ⟨al, mo, 0⟩
set_option maxRecDepth 100000 in
theorem new_ca (w : World) (al : Int) :
    (w.alloc (.cells (((Tryz.zeroCells84.setIfInBounds 0 (.bool true)).setIfInBounds 1 (.int .i64 al)).setIfInBounds 2 (.int .i64 1)) 84)).cell? ⟨w.heap.size, 0, none⟩ = some (.bool true) ∧ (w.alloc (.cells (((Tryz.zeroCells84.setIfInBounds 0 (.bool true)).setIfInBounds 1 (.int .i64 al)).setIfInBounds 2 (.int .i64 1)) 84)).cell? ⟨w.heap.size, 1, none⟩ = some (.int .i64 al) ∧ (w.alloc (.cells (((Tryz.zeroCells84.setIfInBounds 0 (.bool true)).setIfInBounds 1 (.int .i64 al)).setIfInBounds 2 (.int .i64 1)) 84)).cell? ⟨w.heap.size, 2, none⟩ = some (.int .i64 1) ∧
    (w.alloc (.cells (((Tryz.zeroCells84.setIfInBounds 0 (.bool true)).setIfInBounds 1 (.int .i64 al)).setIfInBounds 2 (.int .i64 1)) 84)).cell? ⟨w.heap.size, 3, none⟩ = some (.int .i64 0) ∧ (w.alloc (.cells (((Tryz.zeroCells84.setIfInBounds 0 (.bool true)).setIfInBounds 1 (.int .i64 al)).setIfInBounds 2 (.int .i64 1)) 84)).cell? ⟨w.heap.size, 67, none⟩ = some (.int .i64 0) ∧ (w.alloc (.cells (((Tryz.zeroCells84.setIfInBounds 0 (.bool true)).setIfInBounds 1 (.int .i64 al)).setIfInBounds 2 (.int .i64 1)) 84)).cell? ⟨w.heap.size, 131, none⟩ = some (.int .i64 0) ∧
    (w.alloc (.cells (((Tryz.zeroCells84.setIfInBounds 0 (.bool true)).setIfInBounds 1 (.int .i64 al)).setIfInBounds 2 (.int .i64 1)) 84)).frozen? ⟨w.heap.size, 3, none⟩ = false ∧ (w.alloc (.cells (((Tryz.zeroCells84.setIfInBounds 0 (.bool true)).setIfInBounds 1 (.int .i64 al)).setIfInBounds 2 (.int .i64 1)) 84)).frozen? ⟨w.heap.size, 67, none⟩ = false ∧ (w.alloc (.cells (((Tryz.zeroCells84.setIfInBounds 0 (.bool true)).setIfInBounds 1 (.int .i64 al)).setIfInBounds 2 (.int .i64 1)) 84)).frozen? ⟨w.heap.size, 131, none⟩ = false := by
  simp only [World.cell?, World.frozen?, World.alloc_heap_new]
  refine ⟨rfl, rfl, rfl, rfl, rfl, rfl, ?_, ?_, ?_⟩ <;> rfl
set_option maxRecDepth 100000 in
theorem new_ca2 (w : World) (al mo : Int) : CaAt w.heap.size (Ca.fresh al mo) (w.alloc (.cells ((((Tryz.zeroCells84.setIfInBounds 0 (.bool true)).setIfInBounds 1 (.int .i64 al)).setIfInBounds 2 (.int .i64 1)).setIfInBounds 3 (.int .i64 mo)) 84)) := by
  unfold CaAt Ca.fresh
  simp only [World.cell?, World.frozen?, World.alloc_heap_new]
  refine ⟨rfl, rfl, rfl, rfl, rfl, rfl, ?_, ?_⟩ <;> rfl
theorem copy2 (w w3 : World) (e c : Nat) (al mo : Int) (hc : w.cell? ⟨e, 0, none⟩ = some (.int .i64 mo)) (q : Q w w3) :
    (Builtin.copy_ #[54, 54] 3 #[.slice (some ⟨w3.heap.size, 3, none⟩) 64 64, .slice (some ⟨e, 0, none⟩) 1 c]).run Tryz.prog (w3.alloc (.cells (((Tryz.zeroCells84.setIfInBounds 0 (.bool true)).setIfInBounds 1 (.int .i64 al)).setIfInBounds 2 (.int .i64 1)) 84)) = .ok (.int .i64 1) ((w3.alloc (.cells (((Tryz.zeroCells84.setIfInBounds 0 (.bool true)).setIfInBounds 1 (.int .i64 al)).setIfInBounds 2 (.int .i64 1)) 84)).setCell ⟨w3.heap.size, 3, none⟩ (.int .i64 mo)) := by
  obtain ⟨h0, h1, h2, h3, h4, h5, f3, f4, f5⟩ := new_ca w3 al
  have hl := lt_of_cell hc
  have q2 : Q w (w3.alloc (.cells (((Tryz.zeroCells84.setIfInBounds 0 (.bool true)).setIfInBounds 1 (.int .i64 al)).setIfInBounds 2 (.int .i64 1)) 84)) := q.alloc _
  exact copy1 _ _ e c mo _ ((q2.cell (p := ⟨e, 0, none⟩) hl).trans hc) h3 f3
set_option maxRecDepth 100000 in
set_option maxHeartbeats 1000000 in
theorem cnew_ok (al mo : Int) (e c : Nat) (ha : 0 ≤ al ∧ al ≤ 1000) (h : 0 ≤ mo ∧ mo ≤ 1000) (w : World) (hc : w.cell? ⟨e, 0, none⟩ = some (.int .i64 mo)) :
    Calls Tryz.prog 6 #[.int .i64 al, .slice (some ⟨e, 0, none⟩) 1 c] w fun r w' => ∃ b, r = .returned (.tuple #[.pointer (some ⟨b, 0, none⟩), .int .i64 0]) ∧ w.heap.size ≤ b ∧ CaAt b (Ca.fresh al mo) w' ∧ Q w w' := by
  have hle := lt_of_cell hc
  dsimp only at hle
  have kb := fun w2 => beyond_no al ha w2
  have kc := fun w2 h2 => cont1_none e c mo h w2 h2
  have hg1 : goInt 1 = .int .i64 1 := by simp [goInt]
  go_enter Tryz.func6, Tryz.ntmps6
  go_wp2_with (first
    | (go_at_call 22; refine (kb _).mono ?_; rintro e w2 ⟨rfl, rfl⟩)
    | (go_at_call 23; refine (kc _ hc).mono ?_; rintro e w3 ⟨rfl, q3⟩; have hcp := copy2 w w3 e c al mo hc q3))
  go_ret2
  exact ⟨_, rfl, q3.size, new_ca2 w3 al mo, q3.alloc _⟩
end Go.Proofs.YtnmgcjkffeeapabGreatDoor
