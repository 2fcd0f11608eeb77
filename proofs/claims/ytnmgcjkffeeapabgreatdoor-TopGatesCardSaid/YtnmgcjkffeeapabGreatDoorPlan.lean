/- The contract of plan.Check at the empty plan; small maps in memory. -/
import Derived.Test.YtnmgcjkffeeapabGreatDoorBase
import Derived.RangeFuncRecord
import Derived.MapKept
namespace Go.Proofs.YtnmgcjkffeeapabGreatDoor
open Go.RowKit Go.MapKept
set_option linter.unusedVariables false
set_option linter.unusedSimpArgs false
theorem alloc_set (w : World) (o o' : Obj) : ({ w.alloc o with heap := (w.alloc o).heap.setIfInBounds w.heap.size o' } : World) = w.alloc o' := by
  show ({ w with heap := (w.heap.push o).setIfInBounds w.heap.size o' } : World) = { w with heap := w.heap.push o' }
  congr 1
  apply Array.ext'
  simp
/-- a new key in a map that was laid last -/
theorem ins_new {mty kt et : TypeId} {d : TypeDesc} {key v : Value} {es es' : Array MapEntry} {c : Nat} (w : World) (hm : Tryz.prog.underlying mty = some (.map kt et)) (hd : Tryz.prog.underlying kt = some d) (hk : IsKey d key)
    (h1 : Instr.findNow d key es.toList 0 = some none) (he : es' = es.push { key := key, val := v, born := c }) :
    (Instr.mapUpdate mty (.map (some w.heap.size)) key v).run Tryz.prog (w.alloc (.map es c)) = .ok () (w.alloc (.map es' (c + 1))) := by
  subst he
  have hb : (w.alloc (.map es c)).heap[w.heap.size]? = some (.map es c) := World.alloc_heap_new w _
  simp [Instr.mapUpdate, run_underlying hm, Go.MapKept.run_getObj_map hb, run_checkKey hd hk, run_findKey hd h1, run_setObj_map _ hb, Result.andThen, -World.alloc_eq]
  exact alloc_set w _ _
/-- a key that is there -/
theorem look_there {mty kt et : TypeId} {d : TypeDesc} {key v : Value} {es : Array MapEntry} {c i r : Nat} (w : World) (hm : Tryz.prog.underlying mty = some (.map kt et)) (hd : Tryz.prog.underlying kt = some d) (hk : IsKey d key)
    (hb : w.heap[r]? = some (.map es c)) (h1 : Instr.findNow d key es.toList 0 = some (some (i, v))) :
    (Instr.lookup mty (.map (some r)) key true).run Tryz.prog w = .ok (.tuple #[v, .bool true]) w := by
  simp [Instr.lookup, run_underlying hm, Go.MapKept.run_getObj_map hb, run_checkKey hd hk, run_findKey hd h1, Result.andThen]
/-- the empty plan -/
def zplan : Value := .agg #[.int .i64 0, .int .u64 0, .int .u64 0, .int .u64 0, .int .u64 0, .int .u64 0, .int .u64 0, .bool false, .bool false, .int .i64 0, .int .i64 0, .int .i64 0, .int .i64 0, .slice none 0 0]
theorem none_any (w : World) : Calls Tryz.prog 82 #[zplan] w fun e w' => e = .returned (.bool true) ∧ Q w w' := by
  unfold zplan
  go_enter Tryz.func82, Tryz.ntmps82
  go_wp2
  go_ret
  exact ⟨rfl, (Q.refl _).alloc _⟩
theorem bcheck0 (w : World) : Calls Tryz.prog 80 #[.slice none 0 0] w fun e w' => e = .returned (.int .i64 0) ∧ w = w' := by
  go_enter Tryz.func80, Tryz.ntmps80
  go_wp2_with fail
  refine wp_loop_rounds 1 ?_; rw [rounds_succ]
  go_wp2_with fail
  go_ret
  exact ⟨rfl, rfl⟩
def kv (a b c d : Nat) : Value := .agg #[.func (.func a) #[] #[], .func (.func b) #[] #[], .func (.func c) #[] #[], .func (.func d) #[] #[]]
/-- the map of the kinds -/
def kmap : Array MapEntry := #[{ key := .int .i64 0, val := .agg #[.func (.func 82) #[] #[], .func (.func 83) #[] #[], .func (.func 84) #[] #[], .func (.func 85) #[] #[]], born := 0 }, { key := .int .i64 1, val := .agg #[.func (.func 86) #[] #[], .func (.func 89) #[] #[], .func (.func 91) #[] #[], .func (.func 93) #[] #[]], born := 1 }, { key := .int .i64 2, val := .agg #[.func (.func 95) #[] #[], .func (.func 97) #[] #[], .func (.func 99) #[] #[], .func (.func 101) #[] #[]], born := 2 }]
theorem kinds_any (w : World) : Calls Tryz.prog 79 #[] w fun e w' => ∃ R, e = .returned (.map (some R)) ∧ w'.heap[R]? = some (.map kmap 3) ∧ Q w w' := by
  have hmm := @run_makeMap Tryz.prog
  have hu := Tryz.underlying137
  have h1 := ins_new (mty := 137) (kt := 3) (et := 125) (d := .int .i64) (key := .int .i64 0) (v := .agg #[.func (.func 82) #[] #[], .func (.func 83) #[] #[], .func (.func 84) #[] #[], .func (.func 85) #[] #[]]) (es := #[]) (es' := #[{ key := .int .i64 0, val := .agg #[.func (.func 82) #[] #[], .func (.func 83) #[] #[], .func (.func 84) #[] #[], .func (.func 85) #[] #[]], born := 0 }]) (c := 0) w Tryz.underlying137 Tryz.underlying3 rfl (by rfl) (by rfl)
  have h2 := ins_new (mty := 137) (kt := 3) (et := 125) (d := .int .i64) (key := .int .i64 1) (v := .agg #[.func (.func 86) #[] #[], .func (.func 89) #[] #[], .func (.func 91) #[] #[], .func (.func 93) #[] #[]]) (es := #[{ key := .int .i64 0, val := .agg #[.func (.func 82) #[] #[], .func (.func 83) #[] #[], .func (.func 84) #[] #[], .func (.func 85) #[] #[]], born := 0 }]) (es' := #[{ key := .int .i64 0, val := .agg #[.func (.func 82) #[] #[], .func (.func 83) #[] #[], .func (.func 84) #[] #[], .func (.func 85) #[] #[]], born := 0 }, { key := .int .i64 1, val := .agg #[.func (.func 86) #[] #[], .func (.func 89) #[] #[], .func (.func 91) #[] #[], .func (.func 93) #[] #[]], born := 1 }]) (c := 1) w Tryz.underlying137 Tryz.underlying3 rfl (by rfl) (by rfl)
  have h3 := ins_new (mty := 137) (kt := 3) (et := 125) (d := .int .i64) (key := .int .i64 2) (v := .agg #[.func (.func 95) #[] #[], .func (.func 97) #[] #[], .func (.func 99) #[] #[], .func (.func 101) #[] #[]]) (es := #[{ key := .int .i64 0, val := .agg #[.func (.func 82) #[] #[], .func (.func 83) #[] #[], .func (.func 84) #[] #[], .func (.func 85) #[] #[]], born := 0 }, { key := .int .i64 1, val := .agg #[.func (.func 86) #[] #[], .func (.func 89) #[] #[], .func (.func 91) #[] #[], .func (.func 93) #[] #[]], born := 1 }]) (es' := #[{ key := .int .i64 0, val := .agg #[.func (.func 82) #[] #[], .func (.func 83) #[] #[], .func (.func 84) #[] #[], .func (.func 85) #[] #[]], born := 0 }, { key := .int .i64 1, val := .agg #[.func (.func 86) #[] #[], .func (.func 89) #[] #[], .func (.func 91) #[] #[], .func (.func 93) #[] #[]], born := 1 }, { key := .int .i64 2, val := .agg #[.func (.func 95) #[] #[], .func (.func 97) #[] #[], .func (.func 99) #[] #[], .func (.func 101) #[] #[]], born := 2 }]) (c := 2) w Tryz.underlying137 Tryz.underlying3 rfl (by rfl) (by rfl)
  go_enter Tryz.func79, Tryz.ntmps79
  go_wp2
  go_ret
  exact ⟨_, rfl, World.alloc_heap_new w _, (Q.refl w).alloc _⟩
theorem look0 (w : World) (R : Nat) (h : w.heap[R]? = some (.map kmap 3)) : (Instr.lookup 137 (.map (some R)) (.int .i64 0) true).run Tryz.prog w = .ok (.tuple #[.agg #[.func (.func 82) #[] #[], .func (.func 83) #[] #[], .func (.func 84) #[] #[], .func (.func 85) #[] #[]], .bool true]) w :=
  look_there (i := 0) (d := .int .i64) w Tryz.underlying137 Tryz.underlying3 rfl h (by rfl)
theorem lookQ (w W : World) (R : Nat) (h : w.heap[R]? = some (.map kmap 3)) (q : Q w W) : (Instr.lookup 137 (.map (some R)) (.int .i64 0) true).run Tryz.prog W = .ok (.tuple #[.agg #[.func (.func 82) #[] #[], .func (.func 83) #[] #[], .func (.func 84) #[] #[], .func (.func 85) #[] #[]], .bool true]) W :=
  look0 W R ((q.block R (Array.getElem?_eq_some_iff.1 h).1).trans h)
theorem cell0a (w w1 : World) (o : Obj) (v : Value) (i : Nat) (h : w1.cell? ⟨w.heap.size, i, none⟩ = some v) : (w1.alloc o).cell? ⟨w.heap.size, i, none⟩ = some v := ((Q.refl w1).alloc o |>.cell (p := ⟨w.heap.size, i, none⟩) (lt_of_cell h)).trans h
theorem look2 {w1 : World} {R : Nat} (h : w1.heap[R]? = some (.map kmap 3)) : (Instr.lookup 137 (.map (some R)) (.int .i64 0) true).run Tryz.prog (w1.alloc (.cells #[.nilFunc, .nilFunc, .nilFunc, .nilFunc] 125)) = .ok (.tuple #[.agg #[.func (.func 82) #[] #[], .func (.func 83) #[] #[], .func (.func 84) #[] #[], .func (.func 85) #[] #[]], .bool true]) (w1.alloc (.cells #[.nilFunc, .nilFunc, .nilFunc, .nilFunc] 125)) := lookQ w1 _ R h ((Q.refl _).alloc _)
theorem look3 {w1 : World} {R : Nat} (h : w1.heap[R]? = some (.map kmap 3)) : (Instr.lookup 137 (.map (some R)) (.int .i64 0) true).run Tryz.prog (w1.alloc (.cells #[.nilFunc, .nilFunc, .nilFunc, .nilFunc] 125)).drew = .ok (.tuple #[.agg #[.func (.func 82) #[] #[], .func (.func 83) #[] #[], .func (.func 84) #[] #[], .func (.func 85) #[] #[]], .bool true]) (w1.alloc (.cells #[.nilFunc, .nilFunc, .nilFunc, .nilFunc] 125)).drew := lookQ w1 _ R h ((Q.refl _).alloc _).drew
theorem look4 {w1 : World} {R : Nat} (h : w1.heap[R]? = some (.map kmap 3)) : (Instr.lookup 137 (.map (some R)) (.int .i64 0) true).run Tryz.prog (w1.drew.alloc (.cells #[.nilFunc, .nilFunc, .nilFunc, .nilFunc] 125)) = .ok (.tuple #[.agg #[.func (.func 82) #[] #[], .func (.func 83) #[] #[], .func (.func 84) #[] #[], .func (.func 85) #[] #[]], .bool true]) (w1.drew.alloc (.cells #[.nilFunc, .nilFunc, .nilFunc, .nilFunc] 125)) := lookQ w1 _ R h ((Q.refl _).drew.alloc _)
theorem look5 {w1 : World} {R : Nat} (h : w1.heap[R]? = some (.map kmap 3)) : (Instr.lookup 137 (.map (some R)) (.int .i64 0) true).run Tryz.prog w1.drew = .ok (.tuple #[.agg #[.func (.func 82) #[] #[], .func (.func 83) #[] #[], .func (.func 84) #[] #[], .func (.func 85) #[] #[]], .bool true]) w1.drew := lookQ w1 _ R h (Q.refl _).drew
theorem keep0 {W w1 : World} {b : Nat} {v : Value} (c : W.cell? ⟨b, 0, none⟩ = some v) (q : Q W w1) : w1.cell? ⟨b, 0, none⟩ = some v := (q.cell (p := ⟨b, 0, none⟩) (lt_of_cell c)).trans c
theorem kinds_full (w2 : World) (b : Nat) (v : Value) (c : w2.cell? ⟨b, 0, none⟩ = some v) : Calls Tryz.prog 79 #[] w2 fun e w1 => ∃ R, e = .returned (.map (some R)) ∧ Q w2 w1 ∧ (Instr.lookup 137 (.map (some R)) (.int .i64 0) true).run Tryz.prog w1 = .ok (.tuple #[.agg #[.func (.func 82) #[] #[], .func (.func 83) #[] #[], .func (.func 84) #[] #[], .func (.func 85) #[] #[]], .bool true]) w1 ∧ (Instr.lookup 137 (.map (some R)) (.int .i64 0) true).run Tryz.prog w1.drew = .ok (.tuple #[.agg #[.func (.func 82) #[] #[], .func (.func 83) #[] #[], .func (.func 84) #[] #[], .func (.func 85) #[] #[]], .bool true]) w1.drew ∧ (Instr.lookup 137 (.map (some R)) (.int .i64 0) true).run Tryz.prog (w1.alloc (.cells #[.nilFunc, .nilFunc, .nilFunc, .nilFunc] 125)) = .ok (.tuple #[.agg #[.func (.func 82) #[] #[], .func (.func 83) #[] #[], .func (.func 84) #[] #[], .func (.func 85) #[] #[]], .bool true]) (w1.alloc (.cells #[.nilFunc, .nilFunc, .nilFunc, .nilFunc] 125)) ∧ (Instr.lookup 137 (.map (some R)) (.int .i64 0) true).run Tryz.prog (w1.alloc (.cells #[.nilFunc, .nilFunc, .nilFunc, .nilFunc] 125)).drew = .ok (.tuple #[.agg #[.func (.func 82) #[] #[], .func (.func 83) #[] #[], .func (.func 84) #[] #[], .func (.func 85) #[] #[]], .bool true]) (w1.alloc (.cells #[.nilFunc, .nilFunc, .nilFunc, .nilFunc] 125)).drew ∧ (Instr.lookup 137 (.map (some R)) (.int .i64 0) true).run Tryz.prog (w1.drew.alloc (.cells #[.nilFunc, .nilFunc, .nilFunc, .nilFunc] 125)) = .ok (.tuple #[.agg #[.func (.func 82) #[] #[], .func (.func 83) #[] #[], .func (.func 84) #[] #[], .func (.func 85) #[] #[]], .bool true]) (w1.drew.alloc (.cells #[.nilFunc, .nilFunc, .nilFunc, .nilFunc] 125)) ∧ w1.cell? ⟨b, 0, none⟩ = some v := by
  refine (kinds_any w2).mono ?_
  rintro e w1 ⟨R, rfl, hR, q1⟩
  exact ⟨R, rfl, q1, look0 w1 R hR, look5 hR, look2 hR, look3 hR, look4 hR, keep0 c q1⟩
theorem heap_drew (w : World) : w.drew.heap = w.heap := rfl
set_option maxRecDepth 100000 in
set_option maxHeartbeats 4000000 in
theorem find_zero (w : World) : Calls Tryz.prog 72 #[zplan, .slice none 0 0] w fun e w' => e = .returned (.tuple #[.agg #[.func (.func 82) #[] #[], .func (.func 83) #[] #[], .func (.func 84) #[] #[], .func (.func 85) #[] #[]], .int .i64 0]) ∧ Q w w' := by
  have kk := fun w2 => kinds_any w2
  have kn := fun w2 => none_any w2
  have kb := fun w2 => bcheck0 w2
  unfold zplan at *
  go_enter Tryz.func72, Tryz.ntmps72
  go_wp2_with fail
  have c0 : ((w.alloc (.cells #[.int .i64 0, .int .u64 0, .int .u64 0, .int .u64 0, .int .u64 0, .int .u64 0, .int .u64 0, .bool false, .bool false, .int .i64 0, .int .i64 0, .int .i64 0, .int .i64 0, .slice none 0 0] 41)).alloc (.cells #[.nilFunc, .nilFunc, .nilFunc, .nilFunc] 125)).cell? ⟨w.heap.size, 0, none⟩ = some (.int .i64 0) := by go_simp
  go_region_held3 (fun w' => w'.cell? ⟨w.heap.size, 0, none⟩ = some (.int .i64 0)) (first | go_keep | ((repeat rw [World.cell?_setCell_other _ _ _ _ (by simp)]); assumption) | ((repeat rw [World.cell?_setCell_other _ _ _ _ (by simp)]); go_simp)) (first
    | (go_at_call 79; (with_reducible refine (kinds_full _ w.heap.size (.int .i64 0) ?_).mono ?_); (· go_simp); rintro e w1 ⟨R, rfl, q1, hl, hl1, hl2, hl3, hl4, u0⟩; obtain ⟨x1, x2, x3⟩ := qcell q1))
  all_goals
    have z0 := x3
    simp at z0
    have z1 : w.heap.size < w1.heap.size := by omega
    have z2 : w.heap.size + 1 < w1.heap.size := by omega
    try (have z3 : w.heap.size + 1 + 1 < w1.heap.size := by omega)
    clear hl hl1 hl2 hl3 hl4 u0 c0
    go_wp2_with (first
      | (go_at_call 82; (with_reducible refine (kn _).mono ?_); rintro e w3 ⟨rfl, q3⟩; obtain ⟨y1, y2, y3⟩ := qcell q3)
      | (go_at_call 80; refine (kb _).mono ?_; rintro e w4 ⟨rfl, rfl⟩))
    refine wp_loop_rounds 1 ?_; rw [rounds_succ]
    go_wp2_with fail
    refine bodyPost_ret (v := .tuple #[.agg #[.func (.func 82) #[] #[], .func (.func 83) #[] #[], .func (.func 84) #[] #[], .func (.func 85) #[] #[]], .int .i64 0]) ?_ rfl ⟨rfl, ?_⟩
    · first | (simp [results, Tryz.results72, go_sem]; done) | (simp [results, Tryz.results72, go_sem, y1, x1, z1, z2]; done)
    · repeat (first | exact Q.refl _ | assumption | refine Q.alloc ?_ _ | refine Q.drew ?_ | refine Q.setCell ?_ (by dsimp only; omega) _ | refine Q.trans ?_ (by assumption))
theorem plan_zero (w : World) : Calls Tryz.prog 67 #[zplan] w fun e w' => e = .returned (.int .i64 0) ∧ Q w w' := by
  have kf := fun w2 => find_zero w2
  unfold zplan at *
  go_enter Tryz.func67, Tryz.ntmps67
  go_wp2_with (go_at_call 72; (with_reducible refine (kf _).mono ?_); rintro e w3 ⟨rfl, q3⟩)
  go_ret
  exact ⟨rfl, (((Q.refl w).alloc _).trans q3).alloc _⟩
end Go.Proofs.YtnmgcjkffeeapabGreatDoor
