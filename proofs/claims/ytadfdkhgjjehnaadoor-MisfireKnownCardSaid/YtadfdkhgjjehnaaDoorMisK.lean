/- The contract of works. -/
import Derived.Test.YtadfdkhgjjehnaaDoorMisI
import Derived.Test.YtadfdkhgjjehnaaDoorMisJ
namespace Go.Proofs.YtadfdkhgjjehnaaDoor
open Go.RowKit Go.Shelf
set_option linter.unusedVariables false
set_option linter.unusedSimpArgs false
/-- a new slice -/
theorem new_sl (w : World) (xs : List Int) (cs : Array Value) (h : cs = (xs.map (Value.int .i64)).toArray) : Sl (some ⟨w.heap.size, 0, none⟩) xs (w.alloc (.cells cs 2)) := by
  refine Or.inr ⟨w.heap.size, 0, rfl, by simp, fun j hj => ?_⟩
  subst h
  rw [World.cell?]
  simp only [World.alloc_heap_new]
  simp [List.getD, hj]
theorem new_pl (w : World) (xs : List (Int × Int)) (cs : Array Value) (h : cs = (pcs xs).toArray) : Pl (some ⟨w.heap.size, 0, none⟩) xs (w.alloc (.cells cs 42)) := by
  refine Or.inr ⟨w.heap.size, 0, rfl, by simp, fun j hj => ?_⟩
  subst h
  obtain ⟨p1, p2⟩ := pcs_get xs j hj
  rw [World.cell?, World.cell?]
  simp only [World.alloc_heap_new]
  simp [p1, p2]
theorem new_slb (w : World) (b : Nat) (hb : b = w.heap.size) (xs : List Int) (cs : Array Value) (h : cs = (xs.map (Value.int .i64)).toArray) : Sl (some ⟨b, 0, none⟩) xs (w.alloc (.cells cs 2)) := by
  subst hb; exact new_sl w xs cs h
theorem keep_works (a : Option Addr) (c : Nat) (hc : 3 ≤ c) (w : World) (h : Sl a [3, 5, 9] w) : Calls Tryd.prog 15 #[.int .i64 3, .int .i64 2, .slice a 3 c] w fun e w' =>
    ∃ a1 c1 a2 c2, e = .returned (.tuple #[.slice a1 2 c1, .slice a2 1 c2, .int .i64 0]) ∧ Sl a1 [5, 9] w' ∧ Sl a2 [3] w' ∧ Q w w' := by
  refine (keep_any 3 2 a [3, 5, 9] 3 c rfl (by decide) hc w h).mono ?_
  rintro e w' ⟨v1, v2, rfl, ht, hq⟩
  have e0 : keepE 3 2 [3, 5, 9] = 0 := by decide
  have e1 : keepK 3 2 [3, 5, 9] = [5, 9] := by decide
  have e2 : keepD 3 2 [3, 5, 9] = [3] := by decide
  rw [e1, e2] at ht
  obtain ⟨a1, c1, rfl, s1, _⟩ := own_sl ht.1
  obtain ⟨a2, c2, rfl, s2, _⟩ := own_sl ht.2.1
  exact ⟨a1, c1, a2, c2, by rw [e0]; rfl, s1, s2, hq⟩
theorem order_works (a : Option Addr) (c : Nat) (w : World) (h : Lm a [[5, 9], [3, 5]] w) : Calls Tryd.prog 22 #[.slice a 2 c] w fun e w' =>
    ∃ a1 c1, e = .returned (.tuple #[.slice a1 4 c1, .int .i64 0]) ∧ Pl a1 [(3, 1), (5, 0), (5, 1), (9, 0)] w' ∧ Q w w' := by
  refine (order_any a [[5, 9], [3, 5]] 2 c rfl (by decide) (by intro j hj; match j, hj with | 0, _ => decide | 1, _ => decide) w h).mono ?_
  rintro e w' ⟨v, rfl, hr, hq⟩
  have e0 : Mf.ordE [[5, 9], [3, 5]] = 0 := by decide
  have e1 : Mf.ordM [[5, 9], [3, 5]] = [(3, 1), (5, 0), (5, 1), (9, 0)] := by decide
  rw [e1] at hr
  obtain ⟨a1, c1, rfl, s1, _⟩ := own_pl hr
  exact ⟨a1, c1, by rw [e0]; rfl, s1, hq⟩
/-- a new slice of two slices -/
theorem new_lm (w : World) (a1 a2 : Option Addr) (n1 n2 c1 c2 : Nat) (xs ys : List Int) (h1 : Sl a1 xs w) (h2 : Sl a2 ys w) (e1 : xs.length = n1) (e2 : ys.length = n2) :
    Lm (some ⟨w.heap.size, 0, none⟩) [xs, ys] (w.alloc (.cells #[.slice a1 n1 c1, .slice a2 n2 c2] 22)) := by
  have hq : Q w (w.alloc (.cells #[.slice a1 n1 c1, .slice a2 n2 c2] 22)) := (Q.refl w).alloc _
  refine Or.inr ⟨w.heap.size, 0, (fun i => if i = 0 then a1 else a2), (fun i => if i = 0 then c1 else c2), rfl, by simp, fun i hi => ?_⟩
  subst e1 e2
  match i, hi with
  | 0, _ =>
    refine ⟨?_, h1.later hq⟩
    rw [World.cell?]
    simp only [World.alloc_heap_new]
    rfl
  | 1, _ =>
    refine ⟨?_, h2.later hq⟩
    rw [World.cell?]
    simp only [World.alloc_heap_new]
    rfl
theorem new_lmb (w : World) (b : Nat) (hb : b = w.heap.size) (a1 a2 : Option Addr) (n1 n2 c1 c2 : Nat) (xs ys : List Int) (h1 : Sl a1 xs w) (h2 : Sl a2 ys w) (e1 : xs.length = n1) (e2 : ys.length = n2) :
    Lm (some ⟨b, 0, none⟩) [xs, ys] (w.alloc (.cells #[.slice a1 n1 c1, .slice a2 n2 c2] 22)) := by
  subst hb; exact new_lm w a1 a2 n1 n2 c1 c2 xs ys h1 h2 e1 e2
theorem some12 : tx 3 12 = ⟨#[115, 111, 109, 101, 58, 49, 50]⟩ := by rfl
set_option maxHeartbeats 2000000 in
theorem works_any (w : World) (hT : Tab w) : Calls Tryd.prog 14 #[] w fun e w' => e = .returned (.bool true) ∧ Q w w' := by
  have kk := fun a w2 h => keep_works a 3 (by decide) w2 h
  have ko := fun a c w2 h => order_works a c w2 h
  have kt := fun w2 (hT2 : Tab w2) => text_any 3 12 w2 hT2
  rw [show Mf.chkE 3 12 = 0 from rfl, some12] at kt
  have k2 := fun a b c d w2 h g => rsame_any a b [5, 9] [5, 9] 2 2 c d rfl rfl (by decide) (by decide) w2 h g
  have k1 := fun a b c d w2 h g => rsame_any a b [3] [3] 1 1 c d rfl rfl (by decide) (by decide) w2 h g
  have k4 := fun a b c d w2 h g => pairs_any a b [(3, 1), (5, 0), (5, 1), (9, 0)] [(3, 1), (5, 0), (5, 1), (9, 0)] 4 4 c d rfl rfl (by decide) (by decide) w2 h g
  rw [show decide ([(5 : Int), 9] = [5, 9]) = true from rfl] at k2
  rw [show decide ([(3 : Int)] = [3]) = true from rfl] at k1
  rw [show decide ([((3 : Int), (1 : Int)), (5, 0), (5, 1), (9, 0)] = [(3, 1), (5, 0), (5, 1), (9, 0)]) = true from rfl] at k4
  go_enter Tryd.func14, Tryd.ntmps14
  go_wp2_with (first
    | (go_at_call 15; refine (kk _ _ ?_).mono ?_; exact new_sl _ _ _ rfl; rintro e w1 ⟨a1, c1, a2, c2, rfl, s1, s2, hq1⟩)
    | (go_at_call 22; refine (ko _ _ _ ?_).mono ?_; refine new_lmb _ _ (by simp) _ _ _ _ _ _ [5, 9] [3, 5] ?_ ?_ rfl rfl; exact (new_slb _ _ (by simp) [5, 9] _ rfl).later ((Q.refl _).alloc _); exact new_slb _ _ (by simp) [3, 5] _ rfl; rintro e w2 ⟨a3, c3, rfl, s3, hq2⟩)
    | (go_at_call 28; refine (kt _ (Tab.later hT (by (repeat (first | exact Q.refl _ | assumption | refine Q.alloc ?_ _ | refine Q.drew ?_ | refine Q.drewN ?_ _ | refine Q.trans ?_ (by assumption)))))).mono ?_; rintro e w3 ⟨rfl, hq3⟩)
    | (go_at_call 21; with_reducible refine (k2 _ _ _ _ _ ?_ ?_).mono ?_; (exact s1.later (by (repeat (first | exact Q.refl _ | assumption | refine Q.alloc ?_ _ | refine Q.drew ?_ | refine Q.drewN ?_ _ | refine Q.trans ?_ (by assumption))))); exact new_slb _ _ (by simp) _ _ rfl; rintro e w4 ⟨rfl, hq4⟩)
    | (go_at_call 21; with_reducible refine (k1 _ _ _ _ _ ?_ ?_).mono ?_; exact s2.later (by (repeat (first | exact Q.refl _ | assumption | refine Q.alloc ?_ _ | refine Q.drew ?_ | refine Q.drewN ?_ _ | refine Q.trans ?_ (by assumption)))); exact new_slb _ _ (by simp) _ _ rfl; rintro e w5 ⟨rfl, hq5⟩)
    | (go_at_call 24; with_reducible refine (k4 _ _ _ _ _ ?_ ?_).mono ?_; exact s3.later (by (repeat (first | exact Q.refl _ | assumption | refine Q.alloc ?_ _ | refine Q.drew ?_ | refine Q.drewN ?_ _ | refine Q.trans ?_ (by assumption)))); exact new_pl _ _ _ rfl; rintro e w6 ⟨rfl, hq6⟩))
  go_ret
  exact ⟨rfl, by (repeat (first | exact Q.refl _ | assumption | refine Q.alloc ?_ _ | refine Q.drew ?_ | refine Q.drewN ?_ _ | refine Q.trans ?_ (by assumption)))⟩
end Go.Proofs.YtadfdkhgjjehnaaDoor
