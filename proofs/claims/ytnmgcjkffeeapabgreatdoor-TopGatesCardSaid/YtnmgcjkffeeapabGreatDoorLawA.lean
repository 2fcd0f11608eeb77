/- The law TopGates: its beginning. -/
import Derived.Test.YtnmgcjkffeeapabGreatDoorWk
import Derived.Test.YtnmgcjkffeeapabGreatDoorGatP
import Derived.Deep.DeepCutAuto
namespace Go.Proofs.YtnmgcjkffeeapabGreatDoor
open Go.RowKit
set_option linter.unusedVariables false
set_option linter.unusedSimpArgs false
theorem job_at (w : World) (js : List Value) (o : Obj) (b : Nat) (hb : w.heap.size = b) : ((w.alloc (.cells js.toArray 43)).alloc o).rangeAt b 0 js := hb ▸ range_q (range_new w js 43) (by simp) ((Q.refl _).alloc _)
set_option maxRecDepth 100000 in
theorem law_big (cap pri spl dea mis kee T U F O N X B C J T2 U2 : Int) (a : Option Addr) (len cp : Nat) (w : World) (hb : 60 < len ∨ 5 < cap) : Calls Tryz.prog 3 #[.agg #[.int .i64 cap, .int .i64 pri, .int .i64 spl, .int .i64 dea, .int .i64 mis, .int .i64 kee, .int .i64 T, .int .i64 U, .int .i64 F, .int .i64 O, .int .i64 N, .int .i64 X, .int .i64 B, .int .i64 C, .int .i64 J], .agg #[.int .i64 T2, .int .i64 U2], .slice a len cp] w fun e w' => e = .returned (.bool true) ∧ Q w w' := by
  have kw := fun w2 => works_any w2
  by_cases h1 : 60 < len
  · have y1 : decide ((60 : Int) < (len : Int)) = true := by simp; omega
    clear hb h1
    go_enter Tryz.func3, Tryz.ntmps3
    go_wp2_with (go_at_call 4; (with_reducible refine (kw _).mono ?_); rintro e w1 ⟨rfl, q1⟩)
    go_ret
    exact ⟨rfl, (((Q.refl w).alloc _).alloc _).trans q1⟩
  · have h2 : 5 < cap := by omega
    have y1 : decide ((60 : Int) < (len : Int)) = false := by simp; omega
    clear hb h1
    go_enter Tryz.func3, Tryz.ntmps3
    go_wp2_with (go_at_call 4; (with_reducible refine (kw _).mono ?_); rintro e w1 ⟨rfl, q1⟩)
    go_ret
    exact ⟨rfl, (((Q.refl w).alloc _).alloc _).trans q1⟩
set_option maxRecDepth 100000 in
set_option maxHeartbeats 2000000 in
theorem law_inv (cap pri spl dea mis kee T U F O N X B C J T2 U2 : Int) (a : Option Addr) (len cp : Nat) (w : World) (hl : len ≤ 60) (hc : cap ≤ 5) (hx : limE T2 U2 = 0 → (!decide (polE cap pri spl dea mis kee T U F O N X B C J = 0)) = true) : Calls Tryz.prog 3 #[.agg #[.int .i64 cap, .int .i64 pri, .int .i64 spl, .int .i64 dea, .int .i64 mis, .int .i64 kee, .int .i64 T, .int .i64 U, .int .i64 F, .int .i64 O, .int .i64 N, .int .i64 X, .int .i64 B, .int .i64 C, .int .i64 J], .agg #[.int .i64 T2, .int .i64 U2], .slice a len cp] w fun e w' => e = .returned (.bool true) ∧ Q w w' := by
  have kw := fun w2 => works_any w2
  have kn := fun JJ w2 h2 => gnew_no (jobL cap pri spl dea mis kee T U F O N X B C J) _ (jobs3_of cap pri spl dea mis kee T U F O N X B C J) 3 T2 U2 (by decide) hx JJ w2 h2
  have y1 : decide ((60 : Int) < (len : Int)) = false := by simp; omega
  clear hx hl
  unfold Cfg jobL at kn
  go_enter Tryz.func3, Tryz.ntmps3
  go_wp2_with (first
    | (go_at_call 5; (with_reducible refine (kn _ _ ?_).mono ?_); (· exact job_at _ _ _ _ (by simp)); rintro e w1 ⟨rfl, q1⟩)
    | (go_at_call 4; (with_reducible refine (kw _).mono ?_); rintro e w2 ⟨rfl, q2⟩))
  go_ret
  exact ⟨rfl, (((((Q.refl w).alloc _).alloc _).alloc _).alloc _).trans (q1.trans q2)⟩
end Go.Proofs.YtnmgcjkffeeapabGreatDoor
