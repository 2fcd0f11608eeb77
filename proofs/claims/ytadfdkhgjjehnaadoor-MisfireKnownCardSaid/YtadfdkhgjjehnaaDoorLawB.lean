/- The walk of the law Parts. -/
import Derived.Test.YtadfdkhgjjehnaaDoorMisL
namespace Go.Proofs.YtadfdkhgjjehnaaDoor
open Go.RowKit
set_option linter.unusedVariables false
set_option linter.unusedSimpArgs false
/-- own slices, written out, with what append asks -/
theorem own_sl2 {w : World} {base : Nat} {v : Value} {l : List Int} (h : w.ownsRow base 2 1 v l.length (l.map (Value.int .i64))) : ∃ a c, v = .slice a l.length c ∧ Sl a l w ∧ l.length ≤ c ∧ (a = none → c = 0) := by
  have hl := h.lt
  rcases h.2 with ⟨rfl, h0⟩ | ⟨g, cap, cur, rfl, hb, hg, hc, hm, hs, ht⟩
  · exact ⟨none, 0, by rw [h0], Or.inl h0, by omega, fun _ => rfl⟩
  · refine ⟨some ⟨g, 0, none⟩, cap, rfl, Or.inr ⟨g, 0, rfl, (hl g rfl).2, fun j hj => ?_⟩, hc, fun e => by cases e⟩
    have := h.cellAt j (by omega)
    rw [Nat.zero_add, this]
    simp [List.getD, hj]
theorem own_form {w : World} {base : Nat} {v : Value} {n : Nat} {xs : List Value} (h : w.ownsRow base 2 1 v n xs) : ∃ a c, v = .slice a n c := by
  rcases h.2 with ⟨rfl, rfl⟩ | ⟨g, cap, cur, rfl, _⟩
  · exact ⟨_, _, rfl⟩
  · exact ⟨_, _, rfl⟩
theorem own_q {w w1 w2 : World} {v : Value} {n : Nat} {xs : List Value} (hg : w1.grownBy w2 v.ownBlock) (ho : w1.ownsRow w.heap.size 2 1 v n xs) (q : Q w w1) : Q w w2 := q.grown hg (fun k e => (ho.lt k e).1)
theorem own_sl3 {w : World} {base : Nat} {a : Option Addr} {n c : Nat} {l : List Int} (hn : l.length = n) (h : w.ownsRow base 2 1 (.slice a n c) n (l.map (Value.int .i64))) : Sl a l w := by
  subst hn
  obtain ⟨a', c', e, s, _⟩ := own_sl2 h
  cases e
  exact s
set_option maxRecDepth 20000 in
set_option maxHeartbeats 2000000 in
theorem parts_walk (p k : Int) (a : Option Addr) (n c : Nat) (zs : List Int) (w : World) (w0 : (Lit.int .i64 p).wf = true) (w1 : (Lit.int .i64 k).wf = true) (hM : IsRow .i64 w a n c zs) (hT : Tab w) :
    Calls Tryd.prog 5 #[.int .i64 p, .int .i64 k, .slice a n c] w fun e w' => e = .returned (.bool true) ∧ Q w w' := by
  obtain ⟨hS, hn, hc, hx⟩ := hM.sl
  generalize zs.take n = xs at *
  have hgi : goInt n = .int .i64 n := by simp [goInt]
  by_cases hbig : 300 < n
  · have y1 : decide ((300 : Int) < (n : Int)) = true := by simp; omega
    clear hS hn hM
    go_enter Tryd.func5, Tryd.ntmps5
    go_wp2_with (go_at_call 14; refine (works_any _ hT).mono ?_; rintro e w9 ⟨rfl, hq9⟩)
    go_ret
    exact ⟨rfl, by (repeat (first | exact Q.refl _ | assumption | refine Q.alloc ?_ _ | refine Q.drew ?_ | refine Q.drewN ?_ _ | refine Q.trans ?_ (by assumption)))⟩
  · have y1 : decide ((300 : Int) < (n : Int)) = false := by simp; omega
    have kk := keep_any p k a xs n c hn (by omega) hc w hS
    unfold KeepPost at kk
    by_cases h0 : keepE p k xs = 0
    · obtain ⟨e1, e2⟩ := keepE_zero h0
      have hK : keepK p k xs = xs.drop (drp p k n) := by unfold keepK; rw [if_pos h0, hn]
      have hD : keepD p k xs = xs.take (drp p k n) := by unfold keepD; rw [if_pos h0, hn]
      obtain ⟨d1, d2⟩ := drp_le (n := n) e1
      have kn := fun w2 => count_any p k n (by omega) w2
      have cM : cntM p k n = Mf.kept p k n := by unfold cntM; rw [if_pos ⟨e1, by omega⟩]
      have cD : cntD p k n = n - Mf.kept p k n := by unfold cntD; rw [if_pos ⟨e1, by omega⟩]
      have cE : cntE p k n = 0 := by unfold cntE; rw [if_pos ⟨e1, by omega⟩]
      rw [cM, cD, cE] at kn
      rw [hK, hD, h0] at kk
      have l1 : (xs.drop (drp p k n)).length = n - drp p k n := by rw [List.length_drop, hn]
      have l2 : (xs.take (drp p k n)).length = drp p k n := by rw [List.length_take, hn, Nat.min_eq_left d1]
      have hcat : xs.take (drp p k n) ++ xs.drop (drp p k n) = xs := List.take_append_drop _ _
      have hm : Mf.kept p k n = ((n - drp p k n : Nat) : Int) := by omega
      have hm2 : (n : Int) - Mf.kept p k n = (drp p k n : Int) := by omega
      rw [hm2, hm] at kn
      generalize xs.drop (drp p k n) = X at *
      generalize xs.take (drp p k n) = Y at *
      generalize drp p k n = d at *
      obtain ⟨m, hmm⟩ : ∃ m, n - d = m := ⟨_, rfl⟩
      rw [hmm] at l1 kn
      have ks := fun a b c d w2 h g => same_any a b xs xs n n c d hn hn (by omega) (by omega) w2 h g
      rw [show decide (xs = xs) = true from by simp] at ks
      have hgm : goInt m = .int .i64 m := by simp [goInt]
      have hgd : goInt d = .int .i64 d := by simp [goInt]
      have L1 := Lib.hid l1; have L2 := Lib.hid l2; have HC := Lib.hid hcat; have HS := Lib.hid hS; have HN := Lib.hid hn
      clear hK hD e1 e2 d2 cM cD cE hm hm2 h0 hS hn hM hcat l1 l2
      go_enter Tryd.func5, Tryd.ntmps5
      go_wp2_with (first
        | (go_at_call 15; refine kk.mono ?_; rintro e w1 ⟨v1, v2, rfl, ht, hq1⟩; obtain ⟨a1, c1, rfl, s1, q1, z1⟩ := own_sl2 ht.1; obtain ⟨a2, c2, rfl, s2, q2, z2⟩ := own_sl2 ht.2.1; rw [L1.out, L2.out]; clear ht)
        | (go_at_call 17; refine (kn _).mono ?_; rintro e w2 ⟨rfl, hq2⟩)
        | (at_builtin; refine wpList_app (by rfl) (.tmp 62) (.tmp 63) rfl w2.heap.size _ 0 [] rfl (World.ownsRow_made w2 #[] 0 (Nat.le_refl _) (by unfold maxLen; omega) rfl) a2 d c2 Y rfl L2.out (s2.later (by (repeat (first | exact Q.refl _ | assumption | refine Q.alloc ?_ _ | refine Q.drew ?_ | refine Q.drewN ?_ _ | refine Q.trans ?_ (by assumption))))) z2 (by omega) (by omega) (by simp) ?_; intro v5 w5 ho5 hg5; have hq5 := own_q hg5 (World.ownsRow_made w2 #[] 0 (Nat.le_refl _) (by unfold maxLen; omega) rfl) (((Q.refl w2).alloc _)); rw [List.nil_append, Nat.zero_add] at ho5; obtain ⟨a5, c5, rfl⟩ := own_form ho5; clear hg5)
        | (at_builtin; refine wpList_app (by rfl) (.tmp 64) (.tmp 65) rfl w2.heap.size _ d Y rfl ho5 a1 m c1 X rfl L1.out (s1.later (by (repeat (first | exact Q.refl _ | assumption | refine Q.alloc ?_ _ | refine Q.drew ?_ | refine Q.drewN ?_ _ | refine Q.trans ?_ (by assumption))))) z1 (by omega) (by omega) (hq5.size) ?_; intro v6 w6 ho6 hg6; have hq6 := own_q hg6 ho5 hq5; rw [HC.out] at ho6; obtain ⟨a6, c6, rfl⟩ := own_form ho6; clear hg6; rw [show d + m = n by omega] at ho6 ⊢; have s6 := own_sl3 HN.out ho6)
        | (go_at_call 25; with_reducible refine (ks _ _ _ _ _ ?_ ?_).mono ?_; exact s6; (exact HS.out.later (by (repeat (first | exact Q.refl _ | assumption | refine Q.alloc ?_ _ | refine Q.drew ?_ | refine Q.drewN ?_ _ | refine Q.trans ?_ (by assumption))))); rintro e w7 ⟨rfl, hq7⟩)
        | (go_at_call 14; refine (works_any _ (Tab.later hT (by (repeat (first | exact Q.refl _ | assumption | refine Q.alloc ?_ _ | refine Q.drew ?_ | refine Q.drewN ?_ _ | refine Q.trans ?_ (by assumption)))))).mono ?_; rintro e w9 ⟨rfl, hq9⟩))
      go_ret
      exact ⟨rfl, by (repeat (first | exact Q.refl _ | assumption | refine Q.alloc ?_ _ | refine Q.drew ?_ | refine Q.drewN ?_ _ | refine Q.trans ?_ (by assumption)))⟩
    · have hK : keepK p k xs = [] := by unfold keepK; rw [if_neg h0]
      have hD : keepD p k xs = [] := by unfold keepD; rw [if_neg h0]
      rw [hK, hD] at kk
      generalize keepE p k xs = y at *
      have y2 : (y != 0) = true := bne_t h0
      have hg0 : goInt 0 = .int .i64 0 := by simp [goInt]
      clear hK hD hS hn hM h0
      go_enter Tryd.func5, Tryd.ntmps5
      go_wp2_with (first
        | (go_at_call 15; refine kk.mono ?_; rintro e w1 ⟨v1, v2, rfl, ht, hq1⟩; obtain ⟨a1, c1, rfl, s1, q1, z1⟩ := own_sl2 ht.1; obtain ⟨a2, c2, rfl, s2, q2, z2⟩ := own_sl2 ht.2.1; rw [List.length_nil]; clear ht)
        | (go_at_call 14; refine (works_any _ (Tab.later hT (by (repeat (first | exact Q.refl _ | assumption | refine Q.alloc ?_ _ | refine Q.drew ?_ | refine Q.drewN ?_ _ | refine Q.trans ?_ (by assumption)))))).mono ?_; rintro e w9 ⟨rfl, hq9⟩))
      go_ret
      exact ⟨rfl, by (repeat (first | exact Q.refl _ | assumption | refine Q.alloc ?_ _ | refine Q.drew ?_ | refine Q.drewN ?_ _ | refine Q.trans ?_ (by assumption)))⟩
end Go.Proofs.YtadfdkhgjjehnaaDoor
