/- The example of layer 35. -/
import Derived.Test.YtnmgcjkffeeapabGreatDoorNewB
namespace Go.Proofs.YtnmgcjkffeeapabGreatDoor
open Go.RowKit
set_option linter.unusedVariables false
set_option linter.unusedSimpArgs false
/-- the cells of a job whose name is a, whose plan is empty -/
def jobL (cap pri spl dea mis kee T U F O N X B C J : Int) : List Value := [.string ⟨#[97]⟩, .int .i64 0, .int .u64 0, .int .u64 0, .int .u64 0, .int .u64 0, .int .u64 0, .int .u64 0, .bool false, .bool false, .int .i64 0, .int .i64 0, .int .i64 0, .int .i64 0, .slice none 0 0, .int .i64 cap, .int .i64 pri, .int .i64 spl, .int .i64 dea, .int .i64 mis, .int .i64 kee, .int .i64 T, .int .i64 U, .int .i64 F, .int .i64 O, .int .i64 N, .int .i64 X, .int .i64 B, .int .i64 C, .int .i64 J]
theorem jobs3_of (cap pri spl dea mis kee T U F O N X B C J : Int) : Jobs3 (jobL cap pri spl dea mis kee T U F O N X B C J) (!decide (polE cap pri spl dea mis kee T U F O N X B C J = 0)) :=
  ⟨rfl, fun w => rule1_any cap pri spl dea mis kee T U F O N X B C J w, fun S M w hS hM => rule2_any cap pri spl dea mis kee T U F O N X B C J w S M hS hM, fun w => by
    rw [Bool.not_not]
    exact rule3_any cap pri spl dea mis kee T U F O N X B C J w⟩
theorem jobC_of (cap pri spl dea mis kee T U F O N X B C J : Int) : JobC (jobL cap pri spl dea mis kee T U F O N X B C J) cap T U F O N := ⟨rfl, rfl, rfl, rfl, rfl, rfl, by simp [jobL, Value.oneCell']⟩
/-- the gate of the example -/
def wk0 : Ga := ⟨0, Ca.fresh 1 1, ⟨false, 0, 0, 0, 0⟩, ⟨false, 0, 0, 0, 0⟩, Bx.fresh 0 0 0⟩
theorem wk0_ok : GaOk wk0 1 5 := ⟨by unfold Ca.ok; decide, by unfold Li.ok; decide, by unfold Li.ok; decide, by unfold Bx.ok; decide, by decide, by decide, by decide, by decide, by decide⟩
theorem wk1_ok : GaOk (wk0.take 5) 2 5 := ⟨by unfold Ca.ok; decide, by unfold Li.ok; decide, by unfold Li.ok; decide, by unfold Bx.ok; decide, by decide, by decide, by decide, by decide, by decide⟩
theorem wk0_acc : acc (rz wk0 5) 5 = 0 := by decide
theorem wk1_acc : acc (rz (wk0.take 5) 5) 5 = 5 := by decide
theorem pol1 : polE 1 0 0 0 0 0 0 0 0 0 0 0 0 0 0 = 0 := by decide
set_option maxRecDepth 100000 in
set_option maxHeartbeats 2000000 in
theorem works_any (w : World) : Calls Tryz.prog 4 #[] w fun e w' => e = .returned (.bool true) ∧ Q w w' := by
  have hJ0 := jobs3_of 1 0 0 0 0 0 0 0 0 0 0 0 0 0 0
  rw [pol1] at hJ0
  have kn := gnew_yes (jobL 1 0 0 0 0 0 0 0 0 0 0 0 0 0 0) hJ0 1 1 0 0 0 0 0 0 0 (by decide) (by unfold VL; decide) (by decide) (by unfold VL; decide) (by unfold VB; decide) (jobC_of 1 0 0 0 0 0 0 0 0 0 0 0 0 0 0) w.heap.size _ (range_new w _ 43)
  have kt := fun p w2 (h : GaAt p wk0 w2) => gtake_yes p wk0 1 5 w2 h wk0_ok wk0_acc
  have kw := fun p w2 (h : GaAt p (wk0.take 5) w2) => why_any p (wk0.take 5) 2 5 w2 h wk1_ok
  rw [wk1_acc] at kw
  clear hJ0
  unfold Cfg jobL at kn
  go_enter Tryz.func4, Tryz.ntmps4
  go_wp2_with (first
    | (go_at_call 5; (with_reducible refine kn.mono ?_); rintro e w1 ⟨p, rfl, hg0, hge, q1⟩; have hg : GaAt p wk0 w1 := hg0)
    | (go_at_call 14; (with_reducible refine (kt p _ hg).mono ?_); rintro e w2 ⟨rfl, hg2, f2⟩)
    | (go_at_call 13; (with_reducible refine (kw p _ hg2).mono ?_); rintro e w3 ⟨rfl, q3⟩))
  go_ret
  refine ⟨rfl, ?_⟩
  have f0 : Fs p.all w w3 := (Fs.ofQ (((Q.refl w).alloc _).trans q1)).trans (f2.thenQ q3)
  exact ⟨f0.1, f0.2.1, f0.2.2.1, f0.2.2.2.1, fun j hj => f0.2.2.2.2 j hj (fun hm => by have := hge j hm; simp at this; omega)⟩
end Go.Proofs.YtnmgcjkffeeapabGreatDoor
