/- The contracts of config.Caps at one job. -/
import Derived.Test.YtnmgcjkffeeapabGreatDoorCfgC
import Derived.OwnWalk
namespace Go.Proofs.YtnmgcjkffeeapabGreatDoor
open Go.RowKit Go.MapKept
set_option linter.unusedVariables false
set_option linter.unusedSimpArgs false
theorem info3 : (Tryz.prog.info? 3).map (fun i => (i.zero, i.size, i.bytes)) = some (some (.int .i64 0), 1, 8) := by kernel_rfl
theorem Q.setCells {a : World} {b : Nat} (hb : a.heap.size ≤ b) : ∀ (vs : List Value) (o : Nat) {w : World}, Q a w → Q a (w.setCells b o vs)
  | [], _, _, h => h
  | v :: r, o, w, h => by
    rw [World.setCells]
    exact Q.setCells hb r (o + 1) (h.setCell hb v)
theorem size_setCells (b : Nat) : ∀ (vs : List Value) (o : Nat) (w : World), (w.setCells b o vs).heap.size = w.heap.size
  | [], _, _ => rfl
  | v :: r, o, w => by rw [World.setCells, size_setCells b r]; simp
theorem there_new (w : World) (zs : Array Value) (t : TypeId) (n : Nat) (h : n ≤ zs.size) : (w.alloc (.cells zs t)).there w.heap.size 0 n := by
  intro j hj
  have hz : (zs[j]?).isSome = true := by simp; omega
  simp only [World.cell?, World.frozen?, World.alloc_heap_new, Nat.zero_add]
  exact ⟨hz, by simp⟩
theorem wpList_store_fresh {ops : Array Oper} {rest : List Oper} {op : Oper} {a : Act} {w : World} {zs : Array Value} {t : TypeId} {Q' : Exit → Act → World → Prop} (hgd : op.guard = none) (ty : TypeId) (x y : Operand) (ho : op.op = .store ty x y) (js : List Value) (hx : a.eval x = .pointer (some ⟨w.heap.size, 0, none⟩)) (hy : a.eval y = .agg js.toArray) (hz : js.length = zs.size) (hi : (Tryz.prog.info? ty).map (·.size) = some js.length) (h1 : js.toArray.all (·.oneCell') = true) (h : ∀ w3, Q w w3 → w3.rangeAt w.heap.size 0 js → w.heap.size < w3.heap.size → wpList Tryz.prog ops Q' rest (a.put op.dst undef) w3) : wpList Tryz.prog ops Q' (op :: rest) a (w.alloc (.cells zs t)) := by
  have ht : (w.alloc (.cells zs t)).there w.heap.size 0 js.toArray.size := there_new w zs t _ (by simp; omega)
  refine wpList_store_mid hgd ty x y ho w.heap.size 0 js.toArray hx hy ht (by rw [hi]; simp) h1 (h _ ?_ ?_ ?_)
  · exact Q.setCells (Nat.le_refl _) _ 0 ((Q.refl w).alloc (.cells zs t))
  · exact World.rangeAt_setCells_same _ _ _ _ (by simpa using ht)
  · rw [size_setCells]; simp
theorem own1 {w : World} {base : Nat} {v : Value} {x : Int} (h : w.ownsRow base 3 1 v 1 [.int .i64 x]) : ∃ g c, v = .slice (some ⟨g, 0, none⟩) 1 c ∧ base ≤ g ∧ w.cell? ⟨g, 0, none⟩ = some (.int .i64 x) := by
  obtain ⟨h1, h2 | ⟨g, c, cur, h3, h4, h5, h6, h7, h8, h9⟩⟩ := h
  · omega
  · subst h3
    exact ⟨g, c, rfl, h4, by simpa [Addr.add_mid] using World.ownsRow.cells ⟨h1, .inr ⟨g, c, cur, rfl, h4, h5, h6, h7, h8, h9⟩⟩ rfl 0 _ rfl⟩
theorem news1 (w : World) (x : Int) (t : TypeId) : ∀ j u, [Value.int .i64 x][j]? = some u → (w.alloc (.cells #[.int .i64 x] t)).cell? ((⟨w.heap.size, 0, none⟩ : Addr).add j) = some u := by
  intro j u hj
  match j, hj with
  | 0, hj =>
    rw [Addr.add_mid, World.cell?]
    simp only [World.alloc_heap_new]
    simpa using hj
theorem cell8_0 (w : World) (v0 v1 v2 v3 v4 v5 v6 v7 : Value) (t : TypeId) : (w.alloc (.cells #[v0, v1, v2, v3, v4, v5, v6, v7] t)).cell? ⟨w.heap.size, 0, none⟩ = some v0 := by
  rw [World.cell?]
  simp only [World.alloc_heap_new]
  rfl
theorem cell8_7 (w : World) (v0 v1 v2 v3 v4 v5 v6 v7 : Value) (t : TypeId) : (w.alloc (.cells #[v0, v1, v2, v3, v4, v5, v6, v7] t)).cell? ⟨w.heap.size, 7, none⟩ = some v7 := by
  rw [World.cell?]
  simp only [World.alloc_heap_new]
  rfl
set_option maxHeartbeats 4000000 in
set_option maxRecDepth 20000 in
theorem caps_yes (js : List Value) (h : Jobs3 js false) (gc cap T U : Int) (hg : 1 ≤ gc ∧ gc ≤ 1000) (hl : limE T U = 0) (h15 : js[15]? = some (.int .i64 cap)) (h1 : js.toArray.all (·.oneCell') = true) (J : Nat) (w : World) (hJ : w.rangeAt J 0 js) :
    Calls Tryz.prog 21 #[.agg #[.int .i64 gc, .int .i64 1, .int .i64 0, .int .i64 1, .int .u64 0, .int .i64 T, .int .i64 U, .slice (some ⟨J, 0, none⟩) 1 1]] w fun e w' => ∃ L c, e = .returned (.tuple #[.int .i64 gc, .slice (some ⟨L, 0, none⟩) 1 c, .int .i64 0]) ∧ w'.cell? ⟨L, 0, none⟩ = some (.int .i64 cap) ∧ w.heap.size ≤ L ∧ Q w w' := by
  have hJl := lt_of_range hJ h.len
  have kc := fun o => check_any js false h gc T U hg J (w.alloc o) (range_q hJ hJl ((Q.refl w).alloc o))
  rw [hl] at kc
  simp only [if_pos, Bool.false_eq_true, if_false] at kc
  have HJ := Lib.hid hJ
  have HL := Lib.hid h.len
  have H15 := Lib.hid h15
  have H1 := Lib.hid h1
  clear hJ hl h15 hg h h1
  have hsz : (Tryz.prog.info? 43).map (·.size) = some js.length := by rw [HL.out]; exact size43
  have hsz2 : (Tryz.prog.info? 43).map (·.size) = some js.toArray.size := by rw [hsz]; simp
  obtain ⟨i0, hi, hz0, hz1, hz2⟩ := info_parts info3
  go_enter Tryz.func21, Tryz.ntmps21
  go_wp2_with (first
    | (go_at_call 46; (with_reducible refine (kc _).mono ?_); rintro e w1 ⟨rfl, q1⟩; have c0 := (q1.cell (p := ⟨w.heap.size, 0, none⟩) (by simp)).trans (cell8_0 w _ _ _ _ _ _ _ _ _); have c7 := (q1.cell (p := ⟨w.heap.size, 7, none⟩) (by simp)).trans (cell8_7 w _ _ _ _ _ _ _ _ _); have hr1 := range_q HJ.out hJl (((Q.refl w).alloc _).trans q1); have hz := q1.size; simp at hz; have hs1 : w.heap.size < w1.heap.size := hz))
  have HR := Lib.hid hr1
  clear hr1
  refine wp_loop_rounds 2 ?_; rw [rounds_succ]
  go_wp2_with (first
    | (refine wpList_load_mid (by rfl) 43 (.tmp 19) (by rfl) J 0 (by rfl) js _ HR.out Tryz.underlying43 (by rfl) hsz ?_)
    | (refine wpList_store_fresh (by rfl) 43 (.tmp 8) (.tmp 20) (by rfl) js (by rfl) (by rfl) HL.out hsz H1.out ?_; intro w3 q3 r3 z3; have c15 := r3 15 _ H15.out; simp only [Nat.zero_add] at c15)
    | (at_builtin; refine wpList_append_own _ rfl (.tmp 21) (.tmp 25) 54 rfl w.heap.size 3 i0 (.int .i64 0) 1 8 Tryz.underlying54 hi hz0 hz1 hz2 rfl (by decide) (.slice none 0 0) 0 [] rfl (World.ownsRow_nil _ _ _ _) ⟨w3.heap.size, 0, none⟩ 1 1 [.int .i64 cap] rfl rfl (news1 w3 cap 3) (by simp [Value.oneCell']) (by decide) (by decide) (by have := q1.size; have := q3.size; simp at *; omega) ?_; intro v' w4 hown hgrow hiff))
  have q4 : Q w3 w4 := ((Q.refl w3).alloc _).grown hgrow (by simp [Value.ownBlock])
  obtain ⟨g, c, rfl, hg, hcell⟩ := own1 hown
  have c4 := ((q3.trans q4).cell (p := ⟨w.heap.size, 0, none⟩) hs1).trans c0
  have q5 := ((Q.refl w).alloc _).trans (q1.trans (q3.trans q4))
  clear hgrow hiff hown c15 c0 c7 q1 q3 r3 q4
  rw [rounds_succ]
  go_wp2_with fail
  exact bodyPost_ret (v := .tuple #[.int .i64 gc, .slice (some ⟨g, 0, none⟩) 1 c, .int .i64 0]) (by simp [results, Tryz.results21, go_sem]) rfl ⟨g, c, rfl, hcell, hg, q5⟩
set_option maxRecDepth 20000 in
theorem caps_no (js : List Value) (b : Bool) (h : Jobs3 js b) (gc T U : Int) (hg : 1 ≤ gc ∧ gc ≤ 1000) (hx : limE T U = 0 → b = true) (J : Nat) (w : World) (hJ : w.rangeAt J 0 js) :
    Calls Tryz.prog 21 #[.agg #[.int .i64 gc, .int .i64 1, .int .i64 0, .int .i64 1, .int .u64 0, .int .i64 T, .int .i64 U, .slice (some ⟨J, 0, none⟩) 1 1]] w fun e w' => e = .returned (.tuple #[.int .i64 0, .slice none 0 0, .int .i64 16]) ∧ Q w w' := by
  have hJl := lt_of_range hJ h.len
  have kc := fun o => check_any js b h gc T U hg J (w.alloc o) (range_q hJ hJl ((Q.refl w).alloc o))
  have he : (if limE T U = 0 then (if b then 16 else 0) else 16 : Int) = 16 := by
    by_cases hl : limE T U = 0
    · rw [if_pos hl, hx hl]; rfl
    · rw [if_neg hl]
  rw [he] at kc
  clear he hx hJ h hg
  go_enter Tryz.func21, Tryz.ntmps21
  go_wp2_with (go_at_call 46; (with_reducible refine (kc _).mono ?_); rintro e w1 ⟨rfl, q1⟩)
  exact bodyPost_ret (v := .tuple #[.int .i64 0, .slice none 0 0, .int .i64 16]) (by simp [results, Tryz.results21, go_sem]) rfl ⟨rfl, ((Q.refl w).alloc _).trans q1⟩
end Go.Proofs.YtnmgcjkffeeapabGreatDoor
