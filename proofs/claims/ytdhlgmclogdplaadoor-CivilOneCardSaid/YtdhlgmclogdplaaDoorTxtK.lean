/- The contracts of slices.Compare, of both Orders. -/
import Derived.Test.YtdhlgmclogdplaaDoorTxtJ
import Derived.Test.YtdhlgmclogdplaaDoorShelf
namespace Go.Proofs.YtdhlgmclogdplaaDoor
open Go.RowKit
set_option linter.unusedVariables false
set_option linter.unusedSimpArgs false
theorem ci_lt (x y : Int) (h : x < y) (w : World) : Calls Tryd.prog 47 #[.int .i64 x, .int .i64 y] w fun e w' => e = .returned (.int .i64 (-1)) ∧ w = w' := by
  refine (Tryd.cmp_Compare_int x y w).mono ?_
  rintro e w' ⟨rfl, rfl⟩
  exact ⟨by simp [Lib.compareInt, h], rfl⟩
theorem ci_gt (x y : Int) (h : y < x) (w : World) : Calls Tryd.prog 47 #[.int .i64 x, .int .i64 y] w fun e w' => e = .returned (.int .i64 1) ∧ w = w' := by
  refine (Tryd.cmp_Compare_int x y w).mono ?_
  rintro e w' ⟨rfl, rfl⟩
  exact ⟨by simp [Lib.compareInt, h, show ¬ x < y by omega], rfl⟩
theorem ci_eq (x : Int) (w : World) : Calls Tryd.prog 47 #[.int .i64 x, .int .i64 x] w fun e w' => e = .returned (.int .i64 0) ∧ w = w' := by
  refine (Tryd.cmp_Compare_int x x w).mono ?_
  rintro e w' ⟨rfl, rfl⟩
  exact ⟨by simp [Lib.compareInt], rfl⟩
theorem drop_get (l : List Int) (k : Nat) (h : k < l.length) : l.drop k = l.getD k 0 :: l.drop (k + 1) := by
  rw [List.drop_eq_getElem_cons h]; simp [List.getD, h]
theorem cmp_step (l m : List Int) (k : Nat) (hl : k < l.length) (hm : k < m.length) : Cal.cmpL (l.drop k) (m.drop k) = if l.getD k 0 < m.getD k 0 then -1 else if m.getD k 0 < l.getD k 0 then 1 else Cal.cmpL (l.drop (k + 1)) (m.drop (k + 1)) := by
  rw [drop_get l k hl, drop_get m k hm]; simp only [Cal.cmpL]
theorem compare_any (B C : Nat) (l m : List Int) (n : Nat) (hl : l.length = n) (hm : m.length = n) (hn : n < 1000000) (w : World) (rb : Row B l w) (rc : Row C m w) :
    Calls Tryd.prog 43 #[.slice (some ⟨B, 0, none⟩) n n, .slice (some ⟨C, 0, none⟩) n n] w fun e w' => e = .returned (.int .i64 (Cal.cmpL l m)) ∧ w = w' := by
  obtain ⟨_, rb⟩ := rb
  obtain ⟨_, rc⟩ := rc
  rw [hl] at rb
  rw [hm] at rc
  have hgi : goInt n = .int .i64 n := by simp [goInt]
  go_enter Tryd.func43, Tryd.ntmps43
  go_wp2_with fail
  go_loop [11] (fun i => ∃ k : Nat, k ≤ n ∧ i = .int .i64 k ∧ Cal.cmpL l m = Cal.cmpL (l.drop k) (m.drop k)) (fun i => n - (intOf i).toNat)
  case atStart => exact ⟨0, by omega, rfl, by simp⟩
  case round =>
    obtain ⟨k, hk, rfl, hc⟩ := hrel
    rcases Nat.lt_or_ge k n with hlt | hge
    · have hs := cmp_step l m k (by omega) (by omega)
      have c1 := rb k hlt
      have c2 := rc k hlt
      rw [hs] at hc
      obtain ⟨x, hx⟩ : ∃ x, l.getD k 0 = x := ⟨_, rfl⟩
      obtain ⟨y, hy⟩ : ∃ x, m.getD k 0 = x := ⟨_, rfl⟩
      rw [hx] at c1 hc
      rw [hy] at c2 hc
      have y1 : decide ((k : Int) < (n : Int)) = true := by simp; omega
      have y2 : decide ((n : Int) ≤ (k : Int)) = false := by simp; omega
      clear hs hx hy rb rc hl hm
      rcases Int.lt_trichotomy x y with h1 | h1 | h1
      · rw [if_pos h1] at hc
        have HC := Lib.hid hc; clear hc
        go_wp2_with (go_at_call 47; refine (ci_lt x y h1 _).mono ?_; rintro e w' ⟨rfl, rfl⟩)
        go_ret
        exact ⟨ret_int HC.out.symm, rfl⟩
      · subst h1
        simp only [Int.lt_irrefl, if_false] at hc
        have HC := Lib.hid hc; clear hc
        go_wp2_with (go_at_call 47; refine (ci_eq x _).mono ?_; rintro e w' ⟨rfl, rfl⟩)
        go_round
        case rel => exact ⟨k + 1, by omega, by go_num, HC.out⟩
        case measure => simp [intOf]; omega
      · rw [if_neg (by omega), if_pos h1] at hc
        have HC := Lib.hid hc; clear hc
        go_wp2_with (go_at_call 47; refine (ci_gt x y h1 _).mono ?_; rintro e w' ⟨rfl, rfl⟩)
        go_ret
        exact ⟨ret_int HC.out.symm, rfl⟩
    · have hkn : k = n := by omega
      subst hkn
      have e1 : l.drop k = [] := List.drop_eq_nil_of_le (by omega)
      have e2 : m.drop k = [] := List.drop_eq_nil_of_le (by omega)
      rw [e1, e2] at hc
      have y1 : decide ((k : Int) < (k : Int)) = false := by simp
      have z : Cal.cmpL [] [] = 0 := rfl
      rw [z] at hc
      have HC := Lib.hid hc
      clear z hc e1 e2 rb rc hl hm
      go_wp2_with fail
      go_ret
      exact ⟨ret_int HC.out.symm, rfl⟩
/-- both boxes and what has been read stay -/
theorem keepB {P : Program} {f : Nat} {args : Array Value} {l l0 l1 : List Int} {B0 B1 : Nat} {w2 : World} (k : Calls P f args w2 fun e w' => ∃ B : Nat, e = .returned (.slice (some ⟨B, 0, none⟩) 6 6) ∧ Q w2 w' ∧ Row B l w') (h0 : Row B0 l0 w2) (h1 : Row B1 l1 w2) :
    Calls P f args w2 fun e w' => ∃ B : Nat, e = .returned (.slice (some ⟨B, 0, none⟩) 6 6) ∧ Q w2 w' ∧ Row B l w' ∧ Row B0 l0 w' ∧ Row B1 l1 w' :=
  k.mono fun e w' ⟨B, a, q, r⟩ => ⟨B, a, q, r, h0.later q, h1.later q⟩
theorem Row.later2 {B : Nat} {l : List Int} {w w' : World} (h : Row B l w) (q : Q w w') : Row B l w' := h.later q
theorem order_any (a b c d e f a' b' c' d' e' f' : Int) (w : World) :
    Calls Tryd.prog 34 #[.agg #[.int .i64 a, .int .i64 b, .int .i64 c, .int .i64 d, .int .i64 e, .int .i64 f], .agg #[.int .i64 a', .int .i64 b', .int .i64 c', .int .i64 d', .int .i64 e', .int .i64 f']] w fun z w' => z = .returned (.int .i64 (Cal.cmpL (Cal.fl a b c d e f) (Cal.fl a' b' c' d' e' f'))) ∧ Q w w' := by
  have r0 : Row w.heap.size [a, b, c, d, e, f] ((w.alloc (.cells #[.int .i64 a, .int .i64 b, .int .i64 c, .int .i64 d, .int .i64 e, .int .i64 f] 28)).alloc (.cells #[.int .i64 a', .int .i64 b', .int .i64 c', .int .i64 d', .int .i64 e', .int .i64 f'] 28)) := (Row.new w a b c d e f 28).later ((Q.refl _).alloc _)
  have r1 : Row (w.heap.size + 1) [a', b', c', d', e', f'] ((w.alloc (.cells #[.int .i64 a, .int .i64 b, .int .i64 c, .int .i64 d, .int .i64 e, .int .i64 f] 28)).alloc (.cells #[.int .i64 a', .int .i64 b', .int .i64 c', .int .i64 d', .int .i64 e', .int .i64 f'] 28)) := by simpa using Row.new (w.alloc (.cells #[.int .i64 a, .int .i64 b, .int .i64 c, .int .i64 d, .int .i64 e, .int .i64 f] 28)) a' b' c' d' e' f' 28
  go_enter Tryd.func34, Tryd.ntmps34
  go_wp2_with fail
  go_region_held3 (fun w' => w'.cell? ⟨w.heap.size, 0, none⟩ = some (.int .i64 a) ∧ w'.cell? ⟨w.heap.size, 1, none⟩ = some (.int .i64 b) ∧ w'.cell? ⟨w.heap.size, 2, none⟩ = some (.int .i64 c) ∧ w'.cell? ⟨w.heap.size, 3, none⟩ = some (.int .i64 d) ∧ w'.cell? ⟨w.heap.size, 4, none⟩ = some (.int .i64 e) ∧ w'.cell? ⟨w.heap.size, 5, none⟩ = some (.int .i64 f)
      ∧ w'.cell? ⟨w.heap.size + 1, 0, none⟩ = some (.int .i64 a') ∧ w'.cell? ⟨w.heap.size + 1, 1, none⟩ = some (.int .i64 b') ∧ w'.cell? ⟨w.heap.size + 1, 2, none⟩ = some (.int .i64 c') ∧ w'.cell? ⟨w.heap.size + 1, 3, none⟩ = some (.int .i64 d') ∧ w'.cell? ⟨w.heap.size + 1, 4, none⟩ = some (.int .i64 e') ∧ w'.cell? ⟨w.heap.size + 1, 5, none⟩ = some (.int .i64 f')) (go_keep) (first
    | (go_at_call 44; with_reducible refine (keepB (fields_any a b c d e f _) (r0.later (Q.drew (Q.refl _))) (r1.later (Q.drew (Q.refl _)))).mono ?_; rintro z v1 ⟨B1, rfl, hq1, s1, t1, u1⟩; obtain ⟨x0, x1, x2, x3, x4, x5, x6⟩ := t1.six; obtain ⟨y0, y1, y2, y3, y4, y5, y6⟩ := u1.six)
    | (go_at_call 44; with_reducible refine (keepB (fields_any a' b' c' d' e' f' _) t1 u1).mono ?_; rintro z v2 ⟨B2, rfl, hq2, s2, t2, u2⟩; obtain ⟨m0, m1, m2, m3, m4, m5, m6⟩ := t2.six; obtain ⟨n0, n1, n2, n3, n4, n5, n6⟩ := u2.six)
    | (go_at_call 43; with_reducible refine (compare_any B1 B2 _ _ 6 rfl rfl (by omega) _ (s1.later hq2) s2).mono ?_; rintro z v3 ⟨rfl, rfl⟩))
  all_goals
    go_wp2_with fail
    go_ret
    exact ⟨rfl, by repeat (first | exact Q.refl _ | assumption | refine Q.alloc ?_ _ | refine Q.drew ?_ | refine Q.drewN ?_ _ | refine Q.trans ?_ (by assumption))⟩
end Go.Proofs.YtdhlgmclogdplaaDoor
