/- The walk of the law Orders. -/
import Derived.Test.YtadfdkhgjjehnaaDoorArg
namespace Go.Proofs.YtadfdkhgjjehnaaDoor
open Go.RowKit
set_option linter.unusedVariables false
set_option linter.unusedSimpArgs false
set_option maxHeartbeats 2000000 in
theorem orders_walk (a : Option Addr) (n c : Nat) (L : List (List Int)) (w : World) (hM : IsMat w a n c L) (hT : Tab w) :
    Calls Tryd.prog 4 #[.slice a n c] w fun e w' => e = .returned (.bool true) ∧ Q w w' := by
  obtain ⟨hn, hc, hx, hln, hL⟩ := hM
  have hgi : goInt n = .int .i64 n := by simp [goInt]
  by_cases hbig : 100 < n
  · have y1 : decide ((100 : Int) < (n : Int)) = true := by simp; omega
    clear hL hn hln
    go_enter Tryd.func4, Tryd.ntmps4
    go_wp2_with (go_at_call 14; refine (works_any _ hT).mono ?_; rintro e w9 ⟨rfl, hq9⟩)
    go_ret
    exact ⟨rfl, by (repeat (first | exact Q.refl _ | assumption | refine Q.alloc ?_ _ | refine Q.drew ?_ | refine Q.drewN ?_ _ | refine Q.trans ?_ (by assumption)))⟩
  · have y1 : decide ((100 : Int) < (n : Int)) = false := by simp; omega
    obtain ⟨b, off, hp⟩ := hL.parts
    have HL := Lib.hid hL; have HN := Lib.hid hn; have HP := Lib.hid hp; have HZ := Lib.hid hln
    clear hL hn hp hln
    go_enter Tryd.func4, Tryd.ntmps4
    go_wp2_with fail
    go_loopw [3, 4] (fun vs vi wr => ∃ k : Nat, vi = .int .i64 k ∧ vs = .int .i64 (Mf.sumTo (Mf.ln L) k) ∧ k ≤ n ∧ wr = w ∧ ∀ j, j < k → Mf.ln L j ≤ 300) (fun _ vi _ => n - (intOf vi).toNat)
    case atStart => exact ⟨0, rfl, rfl, by omega, rfl, fun j hj => by omega⟩
    case round =>
      obtain ⟨k, rfl, rfl, hk, rfl, he⟩ := hrel
      have HE := Lib.hid he; clear he
      have hsum : Mf.sumTo (Mf.ln L) k ≤ k * 300 := Mf.sumTo_bd (fun j hj => HE.out j hj)
      rcases Nat.lt_or_ge k n with hlt | hge
      · have y2 : decide ((k : Int) < (n : Int)) = true := by simp; omega
        obtain ⟨rfl, ad, cp, hc, hs⟩ := HP.out k (by rw [HN.out]; exact hlt)
        have y3 : (0 : Int) ≤ (k : Int) ∧ (k : Int) < (n : Int) := by omega
        have hgl : goInt (Mf.ln L k) = .int .i64 (Mf.ln L k) := by simp [goInt]
        have hstep : Hid (Mf.sumTo (Mf.ln L) (k + 1) = Mf.sumTo (Mf.ln L) k + Mf.ln L k) := Lib.hid rfl
        have hl1 : Mf.ln L k ≤ 9223372036854775807 := HZ.out k hlt
        generalize hgs : Mf.sumTo (Mf.ln L) k = s at *
        generalize hgll : Mf.ln L k = ll at *
        have HGS := Lib.hid hgs; have HGL := Lib.hid hgll
        clear hgs hgll hs
        by_cases hx3 : 300 < ll
        · have y4 : decide ((300 : Int) < (ll : Int)) = true := by simp; omega
          clear hl1
          go_wp2_with (go_at_call 14; refine (works_any _ hT).mono ?_; rintro e w9 ⟨rfl, hq9⟩)
          go_ret
          exact ⟨rfl, by (repeat (first | exact Q.refl _ | assumption | refine Q.alloc ?_ _ | refine Q.drew ?_ | refine Q.drewN ?_ _ | refine Q.trans ?_ (by assumption)))⟩
        · have y4 : decide ((300 : Int) < (ll : Int)) = false := by simp; omega
          have hsum2 : (0 : Int) ≤ (s : Int) + (ll : Int) ∧ (s : Int) + (ll : Int) ≤ 100000 := by omega
          clear hl1
          go_wp2_with fail
          go_roundw
          case rel =>
            refine ⟨k + 1, by go_num, by rw [hstep.out]; simp, by omega, by first | rfl | trivial, fun j hj => ?_⟩
            rcases Nat.lt_or_ge j k with q | q
            · exact HE.out j q
            · obtain rfl : j = k := by omega
              rw [HGL.out]; omega
          case measure => simp [intOf]; omega
      · obtain rfl : k = n := by omega
        have y2 : decide ((k : Int) < (k : Int)) = false := by simp
        have htt : Mf.sumTo (Mf.ln L) k = Mf.tot L := by unfold Mf.tot; rw [HN.out]
        rw [htt] at hsum ⊢
        clear htt
        by_cases hb : 3000 < Mf.tot L
        · have y3 : decide ((3000 : Int) < (Mf.tot L : Int)) = true := by simp; omega
          go_wp2_with (go_at_call 14; refine (works_any _ hT).mono ?_; rintro e w9 ⟨rfl, hq9⟩)
          go_ret
          exact ⟨rfl, by (repeat (first | exact Q.refl _ | assumption | refine Q.alloc ?_ _ | refine Q.drew ?_ | refine Q.drewN ?_ _ | refine Q.trans ?_ (by assumption)))⟩
        · have y3 : decide ((3000 : Int) < (Mf.tot L : Int)) = false := by simp; omega
          have ko := fun w2 h => order_any a L k c HN.out (by omega) (fun j hj => by have := HE.out j hj; omega) w2 h
          have kr := fun w2 h => rorder_any a L k c HN.out (by omega) (fun j hj => by have := HE.out j hj; omega) w2 h
          have hM : (Mf.ordM L).length ≤ 3000 := by
            unfold Mf.ordM; split
            · rw [Mf.mrg_len]; omega
            · simp
          generalize Mf.ordE L = oe at *
          have kp := fun a b c d w2 h g => pairs_any a b (Mf.ordM L) (Mf.ordM L) (Mf.ordM L).length (Mf.ordM L).length c d rfl rfl (by omega) (by omega) w2 h g
          rw [show decide (Mf.ordM L = Mf.ordM L) = true from by simp] at kp
          unfold OrdPost at ko kr
          have HM := Lib.hid hM
          generalize Mf.ordM L = om at *
          generalize hoe : Mf.ordE L = oe at *
          clear hoe hM hsum
          go_wp2_with (first
            | (go_at_call 22; refine (ko _ HL.out).mono ?_; rintro e w1 ⟨v1, rfl, hr1, hq1⟩; obtain ⟨a1, c1, rfl, s1, _⟩ := own_pl hr1)
            | (go_at_call 23; refine (kr _ (HL.out.later (by (repeat (first | exact Q.refl _ | assumption | refine Q.alloc ?_ _ | refine Q.drew ?_ | refine Q.drewN ?_ _ | refine Q.trans ?_ (by assumption)))))).mono ?_; rintro e w2 ⟨v2, rfl, hr2, hq2⟩; obtain ⟨a2, c2, rfl, s2, _⟩ := own_pl hr2)
            | (go_at_call 24; with_reducible refine (kp _ _ _ _ _ ?_ ?_).mono ?_; (exact s1.later (by (repeat (first | exact Q.refl _ | assumption | refine Q.alloc ?_ _ | refine Q.drew ?_ | refine Q.drewN ?_ _ | refine Q.trans ?_ (by assumption))))); (exact s2.later (by (repeat (first | exact Q.refl _ | assumption | refine Q.alloc ?_ _ | refine Q.drew ?_ | refine Q.drewN ?_ _ | refine Q.trans ?_ (by assumption))))); rintro e w3 ⟨rfl, hq3⟩)
            | (go_at_call 14; refine (works_any _ (Tab.later hT (by (repeat (first | exact Q.refl _ | assumption | refine Q.alloc ?_ _ | refine Q.drew ?_ | refine Q.drewN ?_ _ | refine Q.trans ?_ (by assumption)))))).mono ?_; rintro e w9 ⟨rfl, hq9⟩))
          go_ret
          exact ⟨rfl, by (repeat (first | exact Q.refl _ | assumption | refine Q.alloc ?_ _ | refine Q.drew ?_ | refine Q.drewN ?_ _ | refine Q.trans ?_ (by assumption)))⟩
end Go.Proofs.YtadfdkhgjjehnaaDoor
