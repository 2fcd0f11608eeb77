/- The contracts of config's rules. -/
import Derived.Test.YtnmgcjkffeeapabGreatDoorPlan
import Derived.Test.YtnmgcjkffeeapabGreatDoorPolD
namespace Go.Proofs.YtnmgcjkffeeapabGreatDoor
open Go.RowKit Go.MapKept
set_option linter.unusedVariables false
set_option linter.unusedSimpArgs false
set_option maxHeartbeats 1000000 in
theorem name_a (w : World) : Calls Tryz.prog 64 #[.string ⟨#[97]⟩] w fun e w' => e = .returned (.bool true) ∧ Q w w' := by
  have h1 : (⟨#[97]⟩ : ByteArray).size = 1 := rfl
  have h0 : ((⟨#[97]⟩ : ByteArray)[0]'(by decide)).toNat = 97 := rfl
  have hb : bits BinOp.or IntKind.u8 97 32 = 97 := by decide
  go_enter Tryz.func64, Tryz.ntmps64
  go_wp2_with fail
  refine wp_loop_rounds 2 ?_; rw [rounds_succ]
  go_wp2_with fail
  all_goals
    rw [rounds_succ]
    go_wp2_with fail
    go_ret
    exact ⟨rfl, by repeat (first | exact Q.refl _ | refine Q.drew ?_ | refine Q.drewN ?_ _)⟩
theorem rule1_any (cap pri spl dea mis kee T U F O N X B C J : Int) (w : World) : Calls Tryz.prog 63 #[.agg #[.string ⟨#[97]⟩, .int .i64 0, .int .u64 0, .int .u64 0, .int .u64 0, .int .u64 0, .int .u64 0, .int .u64 0, .bool false, .bool false, .int .i64 0, .int .i64 0, .int .i64 0, .int .i64 0, .slice none 0 0, .int .i64 cap, .int .i64 pri, .int .i64 spl, .int .i64 dea, .int .i64 mis, .int .i64 kee, .int .i64 T, .int .i64 U, .int .i64 F, .int .i64 O, .int .i64 N, .int .i64 X, .int .i64 B, .int .i64 C, .int .i64 J]] w fun e w' => e = .returned (.bool true) ∧ Q w w' := by
  go_enter Tryz.func63, Tryz.ntmps63
  go_wp2_with (go_at_call 64; (with_reducible refine (name_a _).mono ?_); rintro e w1 ⟨rfl, q1⟩)
  go_ret
  exact ⟨rfl, ((Q.refl w).alloc _).trans q1⟩
theorem rule3_any (cap pri spl dea mis kee T U F O N X B C J : Int) (w : World) : Calls Tryz.prog 66 #[.agg #[.string ⟨#[97]⟩, .int .i64 0, .int .u64 0, .int .u64 0, .int .u64 0, .int .u64 0, .int .u64 0, .int .u64 0, .bool false, .bool false, .int .i64 0, .int .i64 0, .int .i64 0, .int .i64 0, .slice none 0 0, .int .i64 cap, .int .i64 pri, .int .i64 spl, .int .i64 dea, .int .i64 mis, .int .i64 kee, .int .i64 T, .int .i64 U, .int .i64 F, .int .i64 O, .int .i64 N, .int .i64 X, .int .i64 B, .int .i64 C, .int .i64 J]] w fun e w' => e = .returned (.bool (decide (polE cap pri spl dea mis kee T U F O N X B C J = 0))) ∧ Q w w' := by
  have kp := fun w2 => plan_zero w2
  unfold zplan at kp
  have kc := fun w2 => pcheck_any cap pri spl dea mis kee T U F O N X B C J w2
  obtain ⟨pe, hpe⟩ : ∃ x, polE cap pri spl dea mis kee T U F O N X B C J = x := ⟨_, rfl⟩
  rw [hpe] at kc ⊢
  clear hpe
  by_cases h : pe = 0
  · subst h
    go_enter Tryz.func66, Tryz.ntmps66
    go_wp2_with (first
      | (go_at_call 67; (with_reducible refine (kp _).mono ?_); rintro e w1 ⟨rfl, q1⟩; obtain ⟨x1, x2, x3⟩ := qcell q1)
      | (go_at_call 68; (with_reducible refine (kc _).mono ?_); rintro e w2 ⟨rfl, q2⟩))
    go_ret
    exact ⟨rfl, (((Q.refl w).alloc _).trans q1).trans q2⟩
  · have y1 : (pe == 0) = false := beq_f h
    rw [show decide (pe = 0) = false from by simp [h]]
    clear h
    go_enter Tryz.func66, Tryz.ntmps66
    go_wp2_with (first
      | (go_at_call 67; (with_reducible refine (kp _).mono ?_); rintro e w1 ⟨rfl, q1⟩; obtain ⟨x1, x2, x3⟩ := qcell q1)
      | (go_at_call 68; (with_reducible refine (kc _).mono ?_); rintro e w2 ⟨rfl, q2⟩))
    go_ret
    exact ⟨rfl, (((Q.refl w).alloc _).trans q1).trans q2⟩
/-- the first name is put into an empty map -/
def oneMap : Array MapEntry := #[{ key := .string ⟨#[97]⟩, val := .bool true, born := 0 }]
theorem seen_no (w : World) (M : Nat) (hb : w.heap[M]? = some (.map #[] 0)) : (Instr.lookup 114 (.map (some M)) (.string ⟨#[97]⟩) false).run Tryz.prog w = .ok (.bool false) w := by
  have hz : (zeroValue 4).run Tryz.prog w = .ok (.bool false) w := by kernel_rfl
  simp [Instr.lookup, run_underlying Tryz.underlying114, MapKept.run_getObj_map hb, run_checkKey Tryz.underlying9 (k := .string ⟨#[97]⟩) (by trivial), run_findKey (l := []) (a := none) (k := .string ⟨#[97]⟩) Tryz.underlying9 rfl, Result.andThen, hz]
theorem seen_put (w : World) (M : Nat) (hb : w.heap[M]? = some (.map #[] 0)) : (Instr.mapUpdate 114 (.map (some M)) (.string ⟨#[97]⟩) (.bool true)).run Tryz.prog w = .ok () (w.putObj M (.map oneMap 1)) := by
  simp [Instr.mapUpdate, run_underlying Tryz.underlying114, MapKept.run_getObj_map hb, run_checkKey Tryz.underlying9 (k := .string ⟨#[97]⟩) (by trivial), run_findKey (l := []) (a := none) (k := .string ⟨#[97]⟩) Tryz.underlying9 rfl, run_setObj_map _ hb, Result.andThen]
  rfl
theorem Fr.putObj {d : Nat} {a b : World} (h : Fr d a b) (o : Obj) : Fr d a (b.putObj d o) := by
  refine h.trans ⟨rfl, rfl, rfl, by simp, fun j hj hne => World.putObj_heap_other hne⟩
theorem rule2_any (cap pri spl dea mis kee T U F O N X B C J : Int) (w : World) (S M : Nat) (hS : w.cell? ⟨S, 0, none⟩ = some (.map (some M))) (hM : w.heap[M]? = some (.map #[] 0)) :
    Calls Tryz.prog 65 #[.agg #[.string ⟨#[97]⟩, .int .i64 0, .int .u64 0, .int .u64 0, .int .u64 0, .int .u64 0, .int .u64 0, .int .u64 0, .bool false, .bool false, .int .i64 0, .int .i64 0, .int .i64 0, .int .i64 0, .slice none 0 0, .int .i64 cap, .int .i64 pri, .int .i64 spl, .int .i64 dea, .int .i64 mis, .int .i64 kee, .int .i64 T, .int .i64 U, .int .i64 F, .int .i64 O, .int .i64 N, .int .i64 X, .int .i64 B, .int .i64 C, .int .i64 J], .pointer (some ⟨S, 0, none⟩)] w fun e w' => e = .returned (.bool true) ∧ Fr M w w' := by
  have hl := lt_of_cell hS
  have hml : M < w.heap.size := (Array.getElem?_eq_some_iff.1 hM).1
  dsimp only at hl
  have hM2 : (w.alloc (.cells #[.string ⟨#[97]⟩, .int .i64 0, .int .u64 0, .int .u64 0, .int .u64 0, .int .u64 0, .int .u64 0, .int .u64 0, .bool false, .bool false, .int .i64 0, .int .i64 0, .int .i64 0, .int .i64 0, .slice none 0 0, .int .i64 cap, .int .i64 pri, .int .i64 spl, .int .i64 dea, .int .i64 mis, .int .i64 kee, .int .i64 T, .int .i64 U, .int .i64 F, .int .i64 O, .int .i64 N, .int .i64 X, .int .i64 B, .int .i64 C, .int .i64 J] 43)).heap[M]? = some (.map #[] 0) := ((Q.refl w).alloc _ |>.block M hml).trans hM
  have k1 := seen_no _ M hM2
  have k2 := seen_put _ M hM2
  clear hM2
  go_enter Tryz.func65, Tryz.ntmps65
  go_wp2_with fail
  go_ret
  exact ⟨rfl, ((Fr.refl M w).alloc _).putObj _⟩
end Go.Proofs.YtnmgcjkffeeapabGreatDoor
