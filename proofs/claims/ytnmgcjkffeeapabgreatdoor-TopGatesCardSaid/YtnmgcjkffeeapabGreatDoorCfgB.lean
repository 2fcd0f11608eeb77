/- The contracts of config's globals, and of its check of the jobs. -/
import Derived.Test.YtnmgcjkffeeapabGreatDoorCfgA
import Derived.Deep.MidRow
namespace Go.Proofs.YtnmgcjkffeeapabGreatDoor
open Go.RowKit Go.MapKept
set_option linter.unusedVariables false
set_option linter.unusedSimpArgs false
theorem gin_any (n lo hi : Int) (h : lo ≤ n ∧ n ≤ hi) (w : World) : Calls Tryz.prog 61 #[.int .i64 n, .int .i64 lo, .int .i64 hi] w fun e w' => e = .returned (.bool true) ∧ w = w' := by
  go_enter Tryz.func61, Tryz.ntmps61
  go_wp2
  go_ret
  exact ⟨rfl, rfl⟩
set_option maxHeartbeats 2000000 in
theorem glob_any (gc T U : Int) (hg : 1 ≤ gc ∧ gc ≤ 1000) (w : World) : Calls Tryz.prog 55 #[.agg #[.int .i64 gc, .int .i64 1, .int .i64 0, .int .i64 1, .int .u64 0, .int .i64 T, .int .i64 U]] w fun e w' => e = .returned (.int .i64 (limE T U)) ∧ Q w w' := by
  have k1 := fun w2 => gin_any gc 1 1000 hg w2
  have k2 := fun w2 => gin_any 1 1 1024 (by decide) w2
  have k3 := fun w2 => gin_any 0 0 4096 (by decide) w2
  have k4 := fun w2 => gin_any 1 1 68719476736 (by decide) w2
  have kl := fun w2 => clim_any T U w2
  have hv : limE T U = 0 ∨ limE T U = 16 := rl_vals _
  obtain ⟨le, hle⟩ : ∃ x, limE T U = x := ⟨_, rfl⟩
  rw [hle] at kl hv ⊢
  clear hle hg
  rcases hv with rfl | rfl
  all_goals
    go_enter Tryz.func55, Tryz.ntmps55
    go_wp2_with (first
      | (go_at_call 61; (with_reducible refine (k1 _).mono ?_); rintro e w1 ⟨rfl, rfl⟩)
      | (go_at_call 61; (with_reducible refine (k2 _).mono ?_); rintro e w1 ⟨rfl, rfl⟩)
      | (go_at_call 61; (with_reducible refine (k3 _).mono ?_); rintro e w1 ⟨rfl, rfl⟩)
      | (go_at_call 61; (with_reducible refine (k4 _).mono ?_); rintro e w1 ⟨rfl, rfl⟩)
      | (go_at_call 62; (with_reducible refine (kl _).mono ?_); rintro e w2 ⟨rfl, q2⟩))
    go_ret
    exact ⟨rfl, ((Q.refl w).alloc _).trans q2⟩
/-- where the rules lie -/
def RuAt (B S M : Nat) (w : World) : Prop := w.cell? ⟨B, 0, none⟩ = some (.func (.func 63) #[] #[]) ∧ w.cell? ⟨B, 1, none⟩ = some (.int .i64 15) ∧ w.cell? ⟨B, 2, none⟩ = some (.func (.func 65) #[] #[.pointer (some ⟨S, 0, none⟩)]) ∧ w.cell? ⟨B, 3, none⟩ = some (.int .i64 6) ∧ w.cell? ⟨B, 4, none⟩ = some (.func (.func 66) #[] #[]) ∧ w.cell? ⟨B, 5, none⟩ = some (.int .i64 16) ∧ w.cell? ⟨S, 0, none⟩ = some (.map (some M))
theorem RuAt.fr {B S M d : Nat} {w w' : World} (h : RuAt B S M w) (hf : Fr d w w') (h1 : B ≠ d) (h2 : S ≠ d) : RuAt B S M w' := by
  have hb := lt_of_cell h.1
  have hs := lt_of_cell h.2.2.2.2.2.2
  dsimp only at hb hs
  unfold RuAt
  simp only [hf.cell hb h1, hf.cell hs h2]
  exact h
theorem RuAt.q {B S M : Nat} {w w' : World} (h : RuAt B S M w) (q : Q w w') : RuAt B S M w' := by
  have hb := lt_of_cell h.1
  have hs := lt_of_cell h.2.2.2.2.2.2
  dsimp only at hb hs
  exact h.fr (d := w.heap.size) (Fr.ofQ q) (by omega) (by omega)
theorem rules_any (w : World) : Calls Tryz.prog 56 #[] w fun e w' => ∃ B S M, e = .returned (.slice (some ⟨B, 0, none⟩) 3 3) ∧ RuAt B S M w' ∧ w'.heap[M]? = some (.map #[] 0) ∧ (w.heap.size ≤ M ∧ M < S ∧ S < B) ∧ Q w w' := by
  have hmm := @run_makeMap Tryz.prog
  go_enter Tryz.func56, Tryz.ntmps56
  go_wp2
  go_ret
  refine ⟨w.heap.size + 1 + 1, w.heap.size + 1, w.heap.size, rfl, ⟨?_, ?_, ?_, ?_, ?_, ?_, ?_⟩, ?_, ⟨?_, ?_, ?_⟩, ?_⟩
  all_goals try (go_simp; done)
  all_goals try omega
  · exact ((((Q.refl (w.alloc (.map #[] 0))).alloc _).alloc _).block w.heap.size (by simp)).trans (World.alloc_heap_new w _)
  · exact (((Q.refl w).alloc _).alloc _).alloc _
theorem range_new (w : World) (js : List Value) (t : TypeId) : (w.alloc (.cells js.toArray t)).rangeAt w.heap.size 0 js := by
  intro j v hv
  rw [World.cell?]
  simp only [World.alloc_heap_new]
  simpa using hv
theorem range_q {w w' : World} {b o : Nat} {cs : List Value} (h : w.rangeAt b o cs) (hb : b < w.heap.size) (q : Q w w') : w'.rangeAt b o cs := fun j v hv => (q.cell (p := ⟨b, o + j, none⟩) hb).trans (h j v hv)
theorem range_fr {d : Nat} {w w' : World} {b o : Nat} {cs : List Value} (h : w.rangeAt b o cs) (hb : b < w.heap.size) (hf : Fr d w w') (hne : b ≠ d) : w'.rangeAt b o cs := fun j v hv => (hf.cell hb hne (o + j)).trans (h j v hv)
theorem size43 : (Tryz.prog.info? 43).map (·.size) = some 30 := by kernel_rfl
theorem chk63_any (r : Nat) (js : List Value) (hj : js.length = 30) (w : World) (hr : w.cell? ⟨r, 0, none⟩ = some (.func (.func 63) #[] #[])) (k : ∀ w, Calls Tryz.prog 63 #[.agg js.toArray] w fun e w' => e = .returned (.bool true) ∧ Q w w') : Calls Tryz.prog 58 #[.agg js.toArray, .pointer (some ⟨r, 0, none⟩)] w fun e w' => e = .returned (.bool false) ∧ Q w w' := by
  have hl := lt_of_cell hr
  dsimp only at hl
  have hrg := range_new w js 43
  have hsz : (Tryz.prog.info? 43).map (·.size) = some js.length := by rw [hj]; exact size43
  have HR := Lib.hid hrg
  clear hrg hj
  go_enter Tryz.func58, Tryz.ntmps58
  go_wp2_with (first
    | (refine wpList_load_mid (by rfl) 43 (.tmp 2) (by rfl) w.heap.size 0 (by rfl) js _ HR.out Tryz.underlying43 (by rfl) hsz ?_)
    | (go_at_call 63; (with_reducible refine (k _).mono ?_); rintro e w1 ⟨rfl, q1⟩))
  go_ret
  exact ⟨rfl, ((Q.refl w).alloc _).trans q1⟩
theorem chk66_any (b : Bool) (r : Nat) (js : List Value) (hj : js.length = 30) (w : World) (hr : w.cell? ⟨r, 0, none⟩ = some (.func (.func 66) #[] #[])) (k : ∀ w, Calls Tryz.prog 66 #[.agg js.toArray] w fun e w' => e = .returned (.bool (!b)) ∧ Q w w') : Calls Tryz.prog 58 #[.agg js.toArray, .pointer (some ⟨r, 0, none⟩)] w fun e w' => e = .returned (.bool b) ∧ Q w w' := by
  have hl := lt_of_cell hr
  dsimp only at hl
  have hrg := range_new w js 43
  have hsz : (Tryz.prog.info? 43).map (·.size) = some js.length := by rw [hj]; exact size43
  have HR := Lib.hid hrg
  clear hrg hj
  cases b
  all_goals
    simp only [Bool.not_true, Bool.not_false] at k
    go_enter Tryz.func58, Tryz.ntmps58
    go_wp2_with (first
      | (refine wpList_load_mid (by rfl) 43 (.tmp 2) (by rfl) w.heap.size 0 (by rfl) js _ HR.out Tryz.underlying43 (by rfl) hsz ?_)
      | (go_at_call 66; (with_reducible refine (k _).mono ?_); rintro e w1 ⟨rfl, q1⟩))
    go_ret
    exact ⟨rfl, ((Q.refl w).alloc _).trans q1⟩
theorem chk65_any (r S M : Nat) (js : List Value) (hj : js.length = 30) (w : World) (hr : w.cell? ⟨r, 0, none⟩ = some (.func (.func 65) #[] #[.pointer (some ⟨S, 0, none⟩)])) (hS : w.cell? ⟨S, 0, none⟩ = some (.map (some M))) (hM : w.heap[M]? = some (.map #[] 0)) (k : ∀ w, w.cell? ⟨S, 0, none⟩ = some (.map (some M)) → w.heap[M]? = some (.map #[] 0) → Calls Tryz.prog 65 #[.agg js.toArray, .pointer (some ⟨S, 0, none⟩)] w fun e w' => e = .returned (.bool true) ∧ Fr M w w') : Calls Tryz.prog 58 #[.agg js.toArray, .pointer (some ⟨r, 0, none⟩)] w fun e w' => e = .returned (.bool false) ∧ Fr M w w' := by
  have hl := lt_of_cell hr
  have hl2 := lt_of_cell hS
  dsimp only at hl hl2
  have hml : M < w.heap.size := (Array.getElem?_eq_some_iff.1 hM).1
  have k2 := fun t => k (w.alloc t) (((Q.refl w).alloc _ |>.cell (p := ⟨S, 0, none⟩) hl2).trans hS) (((Q.refl w).alloc _ |>.block M hml).trans hM)
  clear hM hS k
  have hrg := range_new w js 43
  have hsz : (Tryz.prog.info? 43).map (·.size) = some js.length := by rw [hj]; exact size43
  have HR := Lib.hid hrg
  clear hrg hj
  go_enter Tryz.func58, Tryz.ntmps58
  go_wp2_with (first
    | (refine wpList_load_mid (by rfl) 43 (.tmp 2) (by rfl) w.heap.size 0 (by rfl) js _ HR.out Tryz.underlying43 (by rfl) hsz ?_)
    | (go_at_call 65; (with_reducible refine (k2 _).mono ?_); rintro e w1 ⟨rfl, f1⟩))
  go_ret
  exact ⟨rfl, ((Fr.refl M w).alloc _).trans f1⟩
set_option maxRecDepth 20000 in
theorem jidx_any (r c J : Nat) (js : List Value) (hj : js.length = 30) (b : Bool) (R : World → Prop) (w : World) (hJ : w.rangeAt J 0 js) (k : Calls Tryz.prog 58 #[.agg js.toArray, .pointer (some ⟨r, 0, none⟩)] w fun e w' => e = .returned (.bool b) ∧ R w') :
    Calls Tryz.prog 69 #[.slice (some ⟨J, 0, none⟩) 1 c, .func (.func 58) #[] #[.pointer (some ⟨r, 0, none⟩)]] w fun e w' => e = .returned (.int .i64 (if b then 0 else -1)) ∧ R w' := by
  have hsz : (Tryz.prog.info? 43).map (·.size) = some js.length := by rw [hj]; exact size43
  have HR := Lib.hid hJ
  clear hJ hj
  cases b with
  | true =>
    go_enter Tryz.func69, Tryz.ntmps69
    go_wp2_with fail
    refine wp_loop_rounds 1 ?_; rw [rounds_succ]
    go_wp2_with (first
      | (refine wpList_load_mid (by rfl) 43 (.tmp 14) (by rfl) J 0 (by rfl) js _ HR.out Tryz.underlying43 (by rfl) hsz ?_)
      | (go_at_call 58; (with_reducible refine k.mono ?_); rintro e w1 ⟨rfl, r1⟩))
    go_ret
    exact ⟨rfl, r1⟩
  | false =>
    go_enter Tryz.func69, Tryz.ntmps69
    go_wp2_with fail
    refine wp_loop_rounds 2 ?_; rw [rounds_succ]
    go_wp2_with (first
      | (refine wpList_load_mid (by rfl) 43 (.tmp 14) (by rfl) J 0 (by rfl) js _ HR.out Tryz.underlying43 (by rfl) hsz ?_)
      | (go_at_call 58; (with_reducible refine k.mono ?_); rintro e w1 ⟨rfl, r1⟩))
    rw [rounds_succ]
    go_wp2_with fail
    go_ret
    exact ⟨rfl, r1⟩
theorem jcont_any (r c J : Nat) (js : List Value) (hj : js.length = 30) (b : Bool) (R : World → Prop) (w : World) (hJ : w.rangeAt J 0 js) (k : Calls Tryz.prog 58 #[.agg js.toArray, .pointer (some ⟨r, 0, none⟩)] w fun e w' => e = .returned (.bool b) ∧ R w') :
    Calls Tryz.prog 57 #[.slice (some ⟨J, 0, none⟩) 1 c, .func (.func 58) #[] #[.pointer (some ⟨r, 0, none⟩)]] w fun e w' => e = .returned (.bool b) ∧ R w' := by
  have ki := jidx_any r c J js hj b R w hJ k
  clear hJ k
  cases b
  all_goals
    go_enter Tryz.func57, Tryz.ntmps57
    go_wp2_with (go_at_call 69; (with_reducible refine ki.mono ?_); rintro e w1 ⟨rfl, r1⟩)
    go_ret
    exact ⟨rfl, r1⟩
end Go.Proofs.YtnmgcjkffeeapabGreatDoor
