/- append, under a guard or not, of a slice that came in. -/
import Derived.Test.YtadfdkhgjjehnaaDoorArg
import Derived.Laws.AppendOwnNone
namespace Go.Proofs.YtadfdkhgjjehnaaDoor
open Go.RowKit
set_option linter.unusedVariables false
set_option linter.unusedSimpArgs false
theorem map_get (ys : List Int) (j : Nat) (u : Value) (h : (ys.map (Value.int .i64))[j]? = some u) : j < ys.length ∧ u = .int .i64 (ys.getD j 0) := by
  rw [List.getElem?_map] at h
  rcases Nat.lt_or_ge j ys.length with q | q
  · refine ⟨q, ?_⟩
    rw [List.getElem?_eq_getElem q] at h
    simp only [Option.map_some, Option.some.injEq] at h
    rw [← h, getD_nat _ _ q]
  · rw [List.getElem?_eq_none q] at h; cases h
theorem wpList_app {ops : Array Oper} {rest : List Oper} {o : Oper} {a : Act} {w : World} {Q' : Exit → Act → World → Prop} (hw : Region.wanted o (yielded ops a.tmps) = true) (s x : Operand)
    (ho : o.op = .call { callee := .builtin .append, args := #[s, x], argTypes := #[22, 22] }) (base : Nat) (v : Value) (n : Nat) (xs : List Int) (hs : a.eval s = v) (hown : w.ownsRow base 2 1 v n (xs.map (Value.int .i64)))
    (a2 : Option Addr) (m c : Nat) (ys : List Int) (hx : a.eval x = .slice a2 m c) (hm : ys.length = m) (hy : Sl a2 ys w) (hn0 : a2 = none → c = 0) (hb1 : n ≤ 1000000000) (hb2 : m ≤ 1000000000) (hb : base ≤ w.heap.size)
    (h : ∀ v' w', w'.ownsRow base 2 1 v' (n + m) ((xs ++ ys).map (Value.int .i64)) → w.grownBy w' v.ownBlock → wpList Tryd.prog ops Q' rest (a.put o.dst v') w') : wpList Tryd.prog ops Q' (o :: rest) a w := by
  obtain ⟨i0, hi, hz0, hz1, hz2⟩ := info_parts info2
  refine wpList_step fun K hK => ?_
  rw [if_pos hw]
  cases a2 with
  | none =>
    have hm0 : m = 0 := by
      rcases hy with q | ⟨b, off, e, _⟩
      · omega
      · cases e
    have hc0 := hn0 rfl
    subst hc0
    obtain rfl : ys = [] := List.eq_nil_of_length_eq_zero (by omega)
    subst hm0
    have hrun := run_append_owned_none (P := Tryd.prog) (w := w) base 22 o.type 2 i0 1 Tryd.underlying22 hi v n (xs.map (Value.int .i64)) hown
    have h2 := h v w (by simpa using hown) (World.grownBy.refl w v.ownBlock)
    unfold Oper.wp
    simp [execOp, ho, resolve, invoke, builtin, hs, hx, hrun, Result.andThen]
    exact hK _ _ h2
  | some ad =>
    refine wp_append_own w s x 22 ho base 2 i0 (.int .i64 0) 1 8 Tryd.underlying22 hi hz0 hz1 hz2 rfl (by decide) v n _ hs hown ad m c (ys.map (Value.int .i64)) hx (by simp [hm]) (fun j u hj => ?_) (fun u hu => ?_) (by unfold maxLen; omega) (by omega) hb (fun v' w' h2 h3 _ => ?_)
    · obtain ⟨q, rfl⟩ := map_get ys j u hj
      rcases hy with q0 | ⟨b, off, e, _, hc⟩
      · omega
      · cases e
        rw [Go.WideShapes.add_plain]
        exact hc j q
    · obtain ⟨y, _, rfl⟩ := List.mem_map.1 hu
      rfl
    · exact hK _ _ (h v' w' (by rw [List.map_append]; exact h2) h3)
end Go.Proofs.YtadfdkhgjjehnaaDoor
