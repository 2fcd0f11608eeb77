/- The contracts of slices.Grow, slices.Concat of two lists. -/
import Derived.Test.YtadfdkhgjjehnaaDoorLawC
import Derived.Lib.AppendZerosOnto
namespace Go.Proofs.YtadfdkhgjjehnaaDoor
open Go.RowKit
set_option linter.unusedVariables false
set_option linter.unusedSimpArgs false
theorem grow_any (n : Nat) (hn : n ≤ 1000000000) (w : World) : Calls Tryd.prog 51 #[.slice none 0 0, .int .i64 n] w fun e w' =>
    ∃ v, e = .returned v ∧ w'.ownsRow w.heap.size 2 1 v 0 [] ∧ Q w w' := by
  rcases Nat.eq_zero_or_pos n with rfl | h0
  · go_enter Tryd.func51, Tryd.ntmps51
    go_wp2_with fail
    go_ret
    exact ⟨_, rfl, World.ownsRow_nil _ _ _ _, Q.refl _⟩
  · obtain ⟨i0, hi, hz0, hz1, hz2⟩ := info_parts info2
    have hrz : ∀ ty, (Builtin.append_ #[22, 3] ty #[.slice none 0 0, .int .i64 (n : Int)]).run Tryd.prog w =
        .ok (.slice (some ⟨w.heap.size, 0, none⟩) n (grownCap w n 0 2)) (w.drew.alloc (.cells (#[] ++ Builtin.zeroCells (Value.int .i64 0).cells n ++ Builtin.zeroCells (Value.int .i64 0).cells (grownCap w n 0 2 - n)) 2)) := fun ty => by
      have h := Lib.run_append_grow_zeros (P := Tryd.prog) w 22 3 ty 2 i0 (.int .i64 0) .i64 .i64 Tryd.underlying22 Tryd.underlying3 hi hz0 none 0 0 [] (run_firstCells_none w.drew i0.size 0 0 0) n h0 (by omega) (by omega) (by omega)
        (by rw [hz2]; omega) (growslice_fits (by omega) (by rw [hz2]; omega))
      simpa using h
    have hGn : n ≤ grownCap w n 0 2 := grownCap_ge w _ _ _
    have hGm : grownCap w n 0 2 ≤ maxLen := grownCap_le_maxLen w n 0 2 (by unfold maxLen; omega)
    obtain ⟨G, hG⟩ : ∃ G, grownCap w n 0 2 = G := ⟨_, rfl⟩
    rw [hG] at hrz hGn hGm
    clear hG
    have hG63 : G ≤ 9223372036854775807 := hGm
    have y1 : decide ((n : Int) < 0) = false := by simp
    have y2 : decide ((0 : Int) < (n : Int)) = true := by simp; omega
    go_enter Tryd.func51, Tryd.ntmps51
    go_wp2_with (at_builtin; refine Lib.wpList_append_run _ rfl _ _ _ _ rfl _ _ rfl rfl _ _ (hrz _) ?_)
    go_ret
    refine ⟨_, rfl, ?_, (Q.refl w).drew.alloc _⟩
    have hsz : (Builtin.zeroCells #[Value.int IntKind.i64 0] n ++ Builtin.zeroCells #[Value.int IntKind.i64 0] (G - n)).size = G * 1 := by
      rw [Array.size_append, size_zeroCells, size_zeroCells]; simp; omega
    exact World.ownsRow_made (w := w.drew) (base := w.heap.size) (e := 2) (size := 1) (Builtin.zeroCells #[Value.int IntKind.i64 0] n ++ Builtin.zeroCells #[Value.int IntKind.i64 0] (G - n)) G (Nat.le_refl _) hGm hsz
theorem concat_two (b : Nat) (a1 a2 : Option Addr) (n1 n2 c1 c2 cc : Nat) (xs ys : List Int) (e1 : xs.length = n1) (e2 : ys.length = n2) (h1 : n1 ≤ 100000000) (h2 : n2 ≤ 100000000) (z1 : a1 = none → c1 = 0) (z2 : a2 = none → c2 = 0) (w : World)
    (hb : b < w.heap.size) (r1 : w.cell? ⟨b, 0, none⟩ = some (.slice a1 n1 c1)) (r2 : w.cell? ⟨b, 1, none⟩ = some (.slice a2 n2 c2)) (s1 : Sl a1 xs w) (s2 : Sl a2 ys w) :
    Calls Tryd.prog 40 #[.slice (some ⟨b, 0, none⟩) 2 cc] w fun e w' => ∃ v, e = .returned v ∧ w'.ownsRow w.heap.size 2 1 v (n1 + n2) ((xs ++ ys).map (Value.int .i64)) ∧ Q w w' := by
  have hg1 : goInt n1 = .int .i64 n1 := by simp [goInt]
  have hg2 : goInt n2 = .int .i64 n2 := by simp [goInt]
  have kg := fun w2 => grow_any (n1 + n2) (by omega) w2
  rw [show ((n1 + n2 : Nat) : Int) = (n1 : Int) + n2 from by simp] at kg
  have S1 := Lib.hid s1; have S2 := Lib.hid s2
  have u1 : decide ((n1 : Int) < 0) = false := by simp
  have u2 : decide ((n1 : Int) + (n2 : Int) < 0) = false := by simp; omega
  have u3 : (0 : Int) ≤ (n1 : Int) + n2 ∧ (n1 : Int) + n2 ≤ 200000000 := by omega
  clear s1 s2
  go_enter Tryd.func40, Tryd.ntmps40
  go_wp2_with fail
  refine wp_loop_rounds 3 ?_; rw [rounds_succ]
  go_wp2_with fail
  rw [rounds_succ]
  go_wp2_with fail
  rw [rounds_succ]
  go_wp2_with (go_at_call 51; refine (kg _).mono ?_; rintro e w1 ⟨v1, rfl, ho1, hq1⟩; obtain ⟨x1, y1, rfl⟩ := own_form ho1; have r1' := (hq1.cell (p := ⟨b, 0, none⟩) hb).trans r1; have r2' := (hq1.cell (p := ⟨b, 1, none⟩) hb).trans r2)
  refine wp_loop_rounds 3 ?_; rw [rounds_succ]
  go_wp2_with (at_builtin; refine wpList_app (by rfl) (.tmp 31) (.tmp 32) rfl w.heap.size _ 0 [] rfl ho1 a1 n1 c1 xs rfl e1 (S1.out.later hq1) z1 (by omega) (by omega) hq1.size ?_; intro v2 w2 ho2 hg2; have hq2 := own_q hg2 ho1 hq1; rw [List.nil_append, Nat.zero_add] at ho2; obtain ⟨x2, y2, rfl⟩ := own_form ho2; have r2'' := (hq2.cell (p := ⟨b, 1, none⟩) hb).trans r2; clear hg2)
  rw [rounds_succ]
  go_wp2_with (at_builtin; refine wpList_app (by rfl) (.tmp 31) (.tmp 32) rfl w.heap.size _ n1 xs rfl ho2 a2 n2 c2 ys rfl e2 (S2.out.later hq2) z2 (by omega) (by omega) hq2.size ?_; intro v3 w3 ho3 hg3; have hq3 := own_q hg3 ho2 hq2; obtain ⟨x3, y3, rfl⟩ := own_form ho3; clear hg3)
  rw [rounds_succ]
  go_wp2_with fail
  go_ret
  exact ⟨_, rfl, ho3, hq3⟩
end Go.Proofs.YtadfdkhgjjehnaaDoor
