/- The contract of pairs. -/
import Derived.Test.YtadfdkhgjjehnaaDoorMisH
namespace Go.Proofs.YtadfdkhgjjehnaaDoor
open Go.RowKit Go.Shelf
set_option linter.unusedVariables false
set_option linter.unusedSimpArgs false
/-- a slice of pairs -/
def Pl (a : Option Addr) (xs : List (Int × Int)) (w : World) : Prop := xs.length = 0 ∨ ∃ b off, a = some ⟨b, off, none⟩ ∧ b < w.heap.size ∧ ∀ j, j < xs.length → w.cell? ⟨b, off + j * 2, none⟩ = some (.int .i64 (xs.getD j (0, 0)).1) ∧ w.cell? ⟨b, off + j * 2 + 1, none⟩ = some (.int .i64 (xs.getD j (0, 0)).2)
theorem Pl.later {a : Option Addr} {xs : List (Int × Int)} {w w' : World} (h : Pl a xs w) (q : Q w w') : Pl a xs w' := by
  rcases h with h | ⟨b, off, rfl, hb, hc⟩
  · exact Or.inl h
  · exact Or.inr ⟨b, off, rfl, Nat.lt_of_lt_of_le hb q.size, fun j hj => ⟨(q.cell (p := ⟨b, off + j * 2, none⟩) hb).trans (hc j hj).1, (q.cell (p := ⟨b, off + j * 2 + 1, none⟩) hb).trans (hc j hj).2⟩⟩
theorem Pl.parts {a : Option Addr} {xs : List (Int × Int)} {n : Nat} {w : World} (h : Pl a xs w) (hn : xs.length = n) : n = 0 ∨ (0 < n ∧ ∃ b off, a = some ⟨b, off, none⟩ ∧ b < w.heap.size ∧ ∀ j, j < n → w.cell? ⟨b, off + j * 2, none⟩ = some (.int .i64 (xs.getD j (0, 0)).1) ∧ w.cell? ⟨b, off + j * 2 + 1, none⟩ = some (.int .i64 (xs.getD j (0, 0)).2)) := by
  subst hn
  rcases h with h | h
  · exact Or.inl h
  · rcases Nat.eq_zero_or_pos xs.length with q | q
    · exact Or.inl q
    · exact Or.inr ⟨q, h⟩
theorem pcs_get : ∀ (xs : List (Int × Int)) (j : Nat), j < xs.length → (pcs xs)[j * 2]? = some (.int .i64 (xs.getD j (0, 0)).1) ∧ (pcs xs)[j * 2 + 1]? = some (.int .i64 (xs.getD j (0, 0)).2)
  | x :: xs, 0, _ => ⟨rfl, rfl⟩
  | x :: xs, j + 1, h => by
    have ih := pcs_get xs j (by simpa using h)
    rw [show (j + 1) * 2 = j * 2 + 1 + 1 by omega]
    exact ⟨by simpa [pcs] using ih.1, by simpa [pcs] using ih.2⟩
theorem own_pl {w : World} {base : Nat} {v : Value} {l : List (Int × Int)} (h : w.ownsRow base 42 2 v l.length (pcs l)) : ∃ a c, v = .slice a l.length c ∧ Pl a l w ∧ l.length ≤ c := by
  have hl := h.lt
  rcases h.2 with ⟨rfl, h0⟩ | ⟨g, cap, cur, rfl, hb, hg, hc, hm, hs, ht⟩
  · exact ⟨none, 0, by rw [h0], Or.inl h0, by omega⟩
  · refine ⟨some ⟨g, 0, none⟩, cap, rfl, Or.inr ⟨g, 0, rfl, (hl g rfl).2, fun j hj => ?_⟩, hc⟩
    obtain ⟨p1, p2⟩ := pcs_get l j hj
    have c1 := h.cells (g := g) rfl _ _ p1
    have c2 := h.cells (g := g) rfl _ _ p2
    refine ⟨?_, ?_⟩
    · have e : (⟨g, 0, none⟩ : Addr).add (j * 2) = ⟨g, 0 + j * 2, none⟩ := by rw [Go.WideShapes.add_plain]
      rw [← e]; exact c1
    · have e : (⟨g, 0, none⟩ : Addr).add (j * 2 + 1) = ⟨g, 0 + j * 2 + 1, none⟩ := by rw [Go.WideShapes.add_plain]; rfl
      rw [← e]; exact c2
theorem eq_i64 (d : Nat) (a b : Int) (w : World) : (Op.equalIn (d + 1) 2 (.int .i64 a) (.int .i64 b)).run Tryd.prog w = .ok (a == b) w := run_equalIn_int w d 2 .i64 .i64 a b Tryd.underlying2
set_option maxRecDepth 100000 in
theorem neqs (a b a' b' : Int) (w : World) : (binOp .neq 42 (.agg #[.int .i64 a, .int .i64 b]) (.agg #[.int .i64 a', .int .i64 b'])).run Tryd.prog w = .ok (.bool (!(a == a' && b == b'))) w := by
  rw [run_neq_struct]
  rw [Op.equalIn]
  have r2 : List.range' 0 2 = [0, 1] := rfl
  have p0 (x0 x1 : Int) : (part 2 #[Value.int IntKind.i64 x0, Value.int IntKind.i64 x1] 0).run Tryd.prog w = .ok (.int .i64 x0) w := by rfl
  have p1 (x0 x1 : Int) : (part 2 #[Value.int IntKind.i64 x0, Value.int IntKind.i64 x1] 1).run Tryd.prog w = .ok (.int .i64 x1) w := by rfl
  have e8 := eq_i64 9998
  rcases Decidable.em (a = a') with h1 | h1
  · rcases Decidable.em (b = b') with h2 | h2 <;> simp [run_underlying Tryd.underlying42, r2, p0, p1, e8, h1, h2, Result.andThen]
  · simp [run_underlying Tryd.underlying42, r2, p0, e8, h1, Result.andThen]
theorem getD_natP (l : List (Int × Int)) (i : Nat) (h : i < l.length) : l.getD i (0, 0) = l[i] := by simp [List.getD, h]
set_option maxHeartbeats 1000000 in
theorem pairs_any (a b : Option Addr) (xs ys : List (Int × Int)) (n m c d : Nat) (hn : xs.length = n) (hm : ys.length = m) (hb : n ≤ 1000000000) (hb2 : m ≤ 1000000000) (w : World) (h : Pl a xs w) (g : Pl b ys w) :
    Calls Tryd.prog 24 #[.slice a n c, .slice b m d] w fun e w' => e = .returned (.bool (decide (xs = ys))) ∧ Q w w' := by
  have hgi : goInt n = .int .i64 n := by simp [goInt]
  have hgi2 : goInt m = .int .i64 m := by simp [goInt]
  by_cases hnm : n = m
  · subst hnm
    have HN := Lib.hid hn; have HM := Lib.hid hm
    have hp := h.parts hn
    have hq := g.parts hm
    clear hn hm h g
    rcases hp with h0 | ⟨h0, b1, o1, rfl, hl1, hc1⟩
    · have hle : n ≤ 0 := by omega
      have he : xs = ys := by
        rw [List.length_eq_zero_iff.1 (HN.out.trans h0), List.length_eq_zero_iff.1 (HM.out.trans h0)]
      have e1 : decide (xs = ys) = true := by simp [he]
      rw [e1]
      clear h0 hq e1 he
      go_enter Tryd.func24, Tryd.ntmps24
      go_wp2_with fail
      go_loop [5] (fun vi => ∃ k : Nat, k ≤ n ∧ vi = .int .i64 k) (fun vi => n - (intOf vi).toNat)
      case atStart => exact ⟨0, by omega, rfl⟩
      case round =>
        obtain ⟨k, hk, rfl⟩ := hrel
        have y1 : decide ((k : Int) < (n : Int)) = false := by simp; omega
        go_wp2_with fail
        go_ret
        exact ⟨rfl, Q.refl _⟩
    · rcases hq with h1 | ⟨h1, b2, o2, rfl, hl2, hc2⟩
      · omega
      have C1 := Lib.hid hc1; have C2 := Lib.hid hc2
      clear hc1 hc2
      go_enter Tryd.func24, Tryd.ntmps24
      go_wp2_with fail
      go_loopw [5] (fun vi wr => ∃ k : Nat, k ≤ n ∧ vi = .int .i64 k ∧ (∀ j, j < k → xs.getD j (0, 0) = ys.getD j (0, 0)) ∧ Q w wr) (fun vi _ => n - (intOf vi).toNat)
      case atStart => exact ⟨0, by omega, rfl, fun j hj => absurd hj (by omega), Q.refl _⟩
      case round =>
        obtain ⟨k, hk, rfl, hsm, hqr⟩ := hrel
        have HS := Lib.hid hsm; clear hsm
        rcases Nat.lt_or_ge k n with hlt | hge
        · have y1 : decide ((k : Int) < (n : Int)) = true := by simp; omega
          have y2 : (0 : Int) ≤ (k : Int) ∧ (k : Int) < (n : Int) := by omega
          have c1 := (hqr.cell (p := ⟨b1, o1 + k * 2, none⟩) hl1).trans (C1.out k hlt).1
          have c2 := (hqr.cell (p := ⟨b2, o2 + k * 2, none⟩) hl2).trans (C2.out k hlt).1
          have c3 := (hqr.cell (p := ⟨b1, o1 + k * 2 + 1, none⟩) hl1).trans (C1.out k hlt).2
          have c4 := (hqr.cell (p := ⟨b2, o2 + k * 2 + 1, none⟩) hl2).trans (C2.out k hlt).2
          obtain ⟨x, hx⟩ : ∃ x, xs.getD k (0, 0) = x := ⟨_, rfl⟩
          obtain ⟨y, hy⟩ : ∃ x, ys.getD k (0, 0) = x := ⟨_, rfl⟩
          rw [hx] at c1 c3
          rw [hy] at c2 c4
          have HX := Lib.hid hx; have HY := Lib.hid hy
          clear hx hy
          obtain ⟨x1, x2⟩ := x
          obtain ⟨y1', y2'⟩ := y
          dsimp only at c1 c2 c3 c4
          by_cases hxy : x1 = y1' ∧ x2 = y2'
          · have hne := fun w2 => (neqs x1 x2 y1' y2' w2).trans (congrArg (fun b => Result.ok (Value.bool b) w2) (show (!(x1 == y1' && x2 == y2')) = false by simp [hxy.1, hxy.2]))
            have HE := Lib.hid hxy; clear hxy
            go_wp2_with fail
            go_quiet (fail)
            go_wp2_with fail
            go_roundw
            case rel =>
              refine ⟨k + 1, by omega, by go_num, fun j hj => ?_, by repeat (first | exact Q.refl _ | assumption | refine Q.alloc ?_ _ | refine Q.drew ?_ | refine Q.drewN ?_ _ | refine Q.trans ?_ (by assumption))⟩
              rcases Nat.lt_or_ge j k with q | q
              · exact HS.out j q
              · obtain rfl : j = k := by omega
                rw [HX.out, HY.out, HE.out.1, HE.out.2]
            case measure => simp [intOf]; omega
          · have hne := fun w2 => (neqs x1 x2 y1' y2' w2).trans (congrArg (fun b => Result.ok (Value.bool b) w2) (show (!(x1 == y1' && x2 == y2')) = true by
              rw [Bool.not_eq_true', Bool.and_eq_false_iff]
              rcases Decidable.em (x1 = y1') with q | q
              · exact Or.inr (beq_f (fun e => hxy ⟨q, e⟩))
              · exact Or.inl (beq_f q)))
            have e1 : decide (xs = ys) = false := by
              rw [decide_eq_false_iff_not]
              intro e
              apply hxy
              have := HX.out.symm.trans ((congrArg (fun l => l.getD k (0, 0)) e).trans HY.out)
              injection this with q1 q2
              exact ⟨q1, q2⟩
            have E1 := Lib.hid e1
            clear e1 hxy
            go_wp2_with fail
            go_quiet (fail)
            go_wp2_with fail
            go_ret
            exact ⟨ret_bool E1.out.symm, by repeat (first | exact Q.refl _ | assumption | refine Q.alloc ?_ _ | refine Q.drew ?_ | refine Q.drewN ?_ _ | refine Q.trans ?_ (by assumption))⟩
        · have hkn : k = n := by omega
          subst hkn
          have y1 : decide ((k : Int) < (k : Int)) = false := by simp
          have e1 : decide (xs = ys) = true := by
            rw [decide_eq_true_iff]
            apply List.ext_getElem (HN.out.trans HM.out.symm)
            intro j hj1 hj2
            have := HS.out j (by rw [← HN.out]; exact hj1)
            rwa [getD_natP _ _ hj1, getD_natP _ _ hj2] at this
          have E1 := Lib.hid e1
          clear e1
          go_wp2_with fail
          go_ret
          exact ⟨ret_bool E1.out.symm, hqr⟩
  · have y0 : ((n : Int) != (m : Int)) = true := bne_t (by omega)
    have e1 : decide (xs = ys) = false := by
      rw [decide_eq_false_iff_not]
      intro e
      rw [e] at hn
      omega
    rw [e1]
    clear e1 hnm hn hm h g
    go_enter Tryd.func24, Tryd.ntmps24
    go_wp2_with fail
    go_ret
    exact ⟨rfl, Q.refl _⟩
end Go.Proofs.YtadfdkhgjjehnaaDoor
