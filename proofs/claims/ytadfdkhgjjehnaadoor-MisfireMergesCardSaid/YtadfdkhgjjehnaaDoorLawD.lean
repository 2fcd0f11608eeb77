/- The walk of the law Joins. -/
import Derived.Test.YtadfdkhgjjehnaaDoorMisO
namespace Go.Proofs.YtadfdkhgjjehnaaDoor
open Go.RowKit
set_option linter.unusedVariables false
set_option linter.unusedSimpArgs false
theorem IsRow.nil {k : IntKind} {w : World} {a : Option Addr} {len cap : Nat} {zs : List Int} (h : IsRow k w a len cap zs) : a = none → cap = 0 := by
  intro e
  rcases h with ⟨_, _, h, _⟩ | ⟨x, rfl, _⟩
  · exact h
  · cases e
set_option maxRecDepth 20000 in
set_option maxHeartbeats 2000000 in
theorem joins_walk (p k : Int) (a1 : Option Addr) (n1 c1 : Nat) (zs1 : List Int) (a2 : Option Addr) (n2 c2 : Nat) (zs2 : List Int) (w : World) (w0 : (Lit.int .i64 p).wf = true) (w1 : (Lit.int .i64 k).wf = true) (hM1 : IsRow .i64 w a1 n1 c1 zs1) (hM2 : IsRow .i64 w a2 n2 c2 zs2) (hT : Tab w) :
    Calls Tryd.prog 8 #[.int .i64 p, .int .i64 k, .slice a1 n1 c1, .slice a2 n2 c2] w fun e w' => e = .returned (.bool true) ∧ Q w w' := by
  obtain ⟨hS1, e1, hc1, hx1⟩ := hM1.sl
  obtain ⟨hS2, e2, hc2, hx2⟩ := hM2.sl
  have z1 := hM1.nil
  have z2 := hM2.nil
  generalize zs1.take n1 = xs at *
  generalize zs2.take n2 = ys at *
  have hg1 : goInt n1 = .int .i64 n1 := by simp [goInt]
  have hg2 : goInt n2 = .int .i64 n2 := by simp [goInt]
  by_cases hb1 : 300 < n1
  · have y1 : decide ((300 : Int) < (n1 : Int)) = true := by simp; omega
    clear hS1 hS2 e1 e2 hM1 hM2 w0 w1 z1 z2
    go_enter Tryd.func8, Tryd.ntmps8
    go_wp2_with (go_at_call 14; refine (works_any _ (Tab.later hT (by (repeat (first | exact Q.refl _ | assumption | refine Q.alloc ?_ _ | refine Q.drew ?_ | refine Q.drewN ?_ _ | refine Q.trans ?_ (by assumption)))))).mono ?_; rintro e w9 ⟨rfl, hq9⟩)
    go_ret
    exact ⟨rfl, by (repeat (first | exact Q.refl _ | assumption | refine Q.alloc ?_ _ | refine Q.drew ?_ | refine Q.drewN ?_ _ | refine Q.trans ?_ (by assumption)))⟩
  · have y1 : decide ((300 : Int) < (n1 : Int)) = false := by simp; omega
    by_cases hb2 : 300 < n2
    · have y2 : decide ((300 : Int) < (n2 : Int)) = true := by simp; omega
      clear hS1 hS2 e1 e2 hM1 hM2 w0 w1 z1 z2
      go_enter Tryd.func8, Tryd.ntmps8
      go_wp2_with (go_at_call 14; refine (works_any _ (Tab.later hT (by (repeat (first | exact Q.refl _ | assumption | refine Q.alloc ?_ _ | refine Q.drew ?_ | refine Q.drewN ?_ _ | refine Q.trans ?_ (by assumption)))))).mono ?_; rintro e w9 ⟨rfl, hq9⟩)
      go_ret
      exact ⟨rfl, by (repeat (first | exact Q.refl _ | assumption | refine Q.alloc ?_ _ | refine Q.drew ?_ | refine Q.drewN ?_ _ | refine Q.trans ?_ (by assumption)))⟩
    · have y2 : decide ((300 : Int) < (n2 : Int)) = false := by simp; omega
      have kj := fun w2 s1 s2 => join_any p k a1 a2 n1 n2 c1 c2 xs ys e1 e2 (by omega) (by omega) z1 z2 w2 s1 s2
      have kr := fun w2 s1 s2 => rjoin_any p k a1 a2 n1 n2 c1 c2 xs ys e1 e2 (by omega) (by omega) z1 z2 w2 s1 s2
      unfold JoinPost at kj kr
      have hlen : (joinK p k xs ys).length ≤ 600 := by
        have h3 : (keepK p k (xs ++ ys)).length ≤ (xs ++ ys).length := by
          unfold keepK; split
          · rw [List.length_drop]; omega
          · simp
        rw [List.length_append, e1, e2] at h3
        unfold joinK; split
        · omega
        · simp
      generalize hjk : joinK p k xs ys = l at *
      generalize hje : joinE p k xs ys = y at *
      have ks := fun a b c d w2 h g => rsame_any a b l l l.length l.length c d rfl rfl (by omega) (by omega) w2 h g
      rw [show decide (l = l) = true from by simp] at ks
      have S1 := Lib.hid hS1; have S2 := Lib.hid hS2
      clear hS1 hS2 e1 e2 hM1 hM2 w0 w1 z1 z2 hjk hje hlen
      go_enter Tryd.func8, Tryd.ntmps8
      go_wp2_with (first
        | (go_at_call 26; with_reducible refine (kj _ ?_ ?_).mono ?_; (exact S1.out.later (by (repeat (first | exact Q.refl _ | assumption | refine Q.alloc ?_ _ | refine Q.drew ?_ | refine Q.drewN ?_ _ | refine Q.trans ?_ (by assumption))))); (exact S2.out.later (by (repeat (first | exact Q.refl _ | assumption | refine Q.alloc ?_ _ | refine Q.drew ?_ | refine Q.drewN ?_ _ | refine Q.trans ?_ (by assumption))))); rintro e u1 ⟨v1, rfl, ho1, hq1⟩; obtain ⟨a3, c3, rfl, s3, _, _⟩ := own_sl2 ho1)
        | (go_at_call 27; with_reducible refine (kr _ ?_ ?_).mono ?_; (exact S1.out.later (by (repeat (first | exact Q.refl _ | assumption | refine Q.alloc ?_ _ | refine Q.drew ?_ | refine Q.drewN ?_ _ | refine Q.trans ?_ (by assumption))))); (exact S2.out.later (by (repeat (first | exact Q.refl _ | assumption | refine Q.alloc ?_ _ | refine Q.drew ?_ | refine Q.drewN ?_ _ | refine Q.trans ?_ (by assumption))))); rintro e u2 ⟨v2, rfl, ho2, hq2⟩; obtain ⟨a4, c4, rfl, s4, _, _⟩ := own_sl2 ho2)
        | (go_at_call 21; with_reducible refine (ks _ _ _ _ _ ?_ ?_).mono ?_; (exact s3.later (by (repeat (first | exact Q.refl _ | assumption | refine Q.alloc ?_ _ | refine Q.drew ?_ | refine Q.drewN ?_ _ | refine Q.trans ?_ (by assumption))))); (exact s4.later (by (repeat (first | exact Q.refl _ | assumption | refine Q.alloc ?_ _ | refine Q.drew ?_ | refine Q.drewN ?_ _ | refine Q.trans ?_ (by assumption))))); rintro e u3 ⟨rfl, hq3⟩)
        | (go_at_call 14; refine (works_any _ (Tab.later hT (by (repeat (first | exact Q.refl _ | assumption | refine Q.alloc ?_ _ | refine Q.drew ?_ | refine Q.drewN ?_ _ | refine Q.trans ?_ (by assumption)))))).mono ?_; rintro e w9 ⟨rfl, hq9⟩))
      go_ret
      exact ⟨rfl, by (repeat (first | exact Q.refl _ | assumption | refine Q.alloc ?_ _ | refine Q.drew ?_ | refine Q.drewN ?_ _ | refine Q.trans ?_ (by assumption)))⟩
end Go.Proofs.YtadfdkhgjjehnaaDoor
