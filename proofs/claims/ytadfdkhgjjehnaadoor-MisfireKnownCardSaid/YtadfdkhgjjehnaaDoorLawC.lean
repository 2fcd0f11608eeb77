/- The walk of the law Last. -/
import Derived.Test.YtadfdkhgjjehnaaDoorLawB
namespace Go.Proofs.YtadfdkhgjjehnaaDoor
open Go.RowKit
set_option linter.unusedVariables false
set_option linter.unusedSimpArgs false
theorem keep_good (p k : Int) (a : Option Addr) (xs : List Int) (n c m : Nat) (hn : xs.length = n) (hb : n ≤ 1000000000) (hc : n ≤ c) (h1 : Mf.chkE p k = 0) (h2 : Mf.listE xs = 0) (hm : (m : Int) = Mf.kept p k n) (w : World) (h : Sl a xs w) :
    Calls Tryd.prog 15 #[.int .i64 p, .int .i64 k, .slice a n c] w fun e w' => ∃ a1 c1 a2 c2, e = .returned (.tuple #[.slice a1 m c1, .slice a2 (n - m) c2, .int .i64 0]) ∧ Sl a1 (xs.drop (n - m)) w' ∧ Sl a2 (xs.take (n - m)) w' ∧ (m ≤ c1 ∧ (a1 = none → c1 = 0)) ∧ Q w w' := by
  have h0 : keepE p k xs = 0 := by unfold keepE Mf.or2; rw [if_pos h1]; exact h2
  refine (keep_any p k a xs n c hn hb hc w h).mono ?_
  rintro e w' ⟨v1, v2, rfl, ht, hq⟩
  obtain ⟨d1, d2⟩ := drp_le (n := n) h1
  have hd : drp p k n = n - m := by omega
  have e1 : keepK p k xs = xs.drop (n - m) := by unfold keepK; rw [if_pos h0, hn, hd]
  have e2 : keepD p k xs = xs.take (n - m) := by unfold keepD; rw [if_pos h0, hn, hd]
  rw [e1, e2] at ht
  obtain ⟨a1, c1, rfl, s1, q1, z1⟩ := own_sl2 ht.1
  obtain ⟨a2, c2, rfl, s2, _⟩ := own_sl2 ht.2.1
  have l1 : (xs.drop (n - m)).length = m := by rw [List.length_drop, hn]; omega
  have l2 : (xs.take (n - m)).length = n - m := by rw [List.length_take, hn]; omega
  exact ⟨a1, c1, a2, c2, by rw [h0, l1, l2], s1, s2, ⟨by rw [← l1]; exact q1, z1⟩, hq⟩
theorem keep_bad (p k : Int) (a : Option Addr) (xs : List Int) (n c : Nat) (y : Int) (hn : xs.length = n) (hb : n ≤ 1000000000) (hc : n ≤ c) (h0 : keepE p k xs = y) (hy : y ≠ 0) (w : World) (h : Sl a xs w) :
    Calls Tryd.prog 15 #[.int .i64 p, .int .i64 k, .slice a n c] w fun e w' => ∃ a1 c1 a2 c2, e = .returned (.tuple #[.slice a1 0 c1, .slice a2 0 c2, .int .i64 y]) ∧ Q w w' := by
  refine (keep_any p k a xs n c hn hb hc w h).mono ?_
  rintro e w' ⟨v1, v2, rfl, ht, hq⟩
  have e1 : keepK p k xs = [] := by unfold keepK; rw [if_neg (by rw [h0]; exact hy)]
  have e2 : keepD p k xs = [] := by unfold keepD; rw [if_neg (by rw [h0]; exact hy)]
  rw [e1, e2] at ht
  obtain ⟨a1, c1, rfl, s1, q1, z1⟩ := own_sl2 ht.1
  obtain ⟨a2, c2, rfl, s2, _⟩ := own_sl2 ht.2.1
  exact ⟨a1, c1, a2, c2, by rw [h0]; rfl, hq⟩
theorem keepE_of {p k : Int} {xs : List Int} (h : Mf.chkE p k = 0) : keepE p k xs = Mf.listE xs := by unfold keepE Mf.or2; rw [if_pos h]
theorem chk3 {k : Int} (h : 1 ≤ k ∧ k ≤ 100) : Mf.chkE 3 k = 0 := by unfold Mf.chkE; rw [if_pos]; exact Or.inr ⟨rfl, h.1, h.2⟩
set_option maxRecDepth 100000 in
set_option maxHeartbeats 4000000 in
theorem last_walk (a : Option Addr) (n c : Nat) (zs : List Int) (kp : Int) (w : World) (hM : IsRow .i64 w a n c zs) (w1 : (Lit.int .u8 kp).wf = true) (hT : Tab w) :
    Calls Tryd.prog 6 #[.slice a n c, .int .u8 kp] w fun e w' => e = .returned (.bool true) ∧ Q w w' := by
  obtain ⟨hS, hn, hc, hx⟩ := hM.sl
  generalize zs.take n = xs at *
  have hgi : goInt n = .int .i64 n := by simp [goInt]
  by_cases hbig : 300 < n
  · have y1 : decide ((300 : Int) < (n : Int)) = true := by simp; omega
    clear hS hn hM w1
    go_enter Tryd.func6, Tryd.ntmps6
    go_wp2_with (go_at_call 14; refine (works_any _ hT).mono ?_; rintro e w9 ⟨rfl, hq9⟩)
    go_ret
    exact ⟨rfl, by (repeat (first | exact Q.refl _ | assumption | refine Q.alloc ?_ _ | refine Q.drew ?_ | refine Q.drewN ?_ _ | refine Q.trans ?_ (by assumption)))⟩
  · have y1 : decide ((300 : Int) < (n : Int)) = false := by simp; omega
    have hkp : 0 ≤ kp ∧ kp ≤ 255 := by
      have hmin : IntKind.u8.min = 0 := rfl
      have hmax : IntKind.u8.max = 255 := rfl
      simp only [Lit.wf, Bool.and_eq_true, decide_eq_true_eq] at w1; omega
    have hr : 0 ≤ kp % 99 ∧ kp % 99 ≤ 98 := by omega
    clear w1
    by_cases h0 : Mf.listE xs = 0
    · obtain ⟨t1, ht1⟩ : ∃ t, min n 1 = t := ⟨_, rfl⟩
      obtain ⟨t3, ht3⟩ : ∃ t, min n (1 + kp % 99).toNat = t := ⟨_, rfl⟩
      obtain ⟨t4, ht4⟩ : ∃ t, min n (1 + kp % 99 + 1).toNat = t := ⟨_, rfl⟩
      have g1 : (t1 : Int) = min (n : Int) 1 := by omega
      have g3 : (t3 : Int) = min (n : Int) (1 + kp % 99) := by omega
      have g4 : (t4 : Int) = min (n : Int) (1 + kp % 99 + 1) := by omega
      have k1 := fun w2 h => keep_good 1 0 a xs n c t1 hn (by omega) hc (by decide) h0 (by rw [g1]; rfl) w2 h
      have k2 := fun w2 h => keep_good 3 1 a xs n c t1 hn (by omega) hc (by decide) h0 (by rw [g1]; rfl) w2 h
      have k3 := fun w2 h => keep_good 3 (1 + kp % 99) a xs n c t3 hn (by omega) hc (chk3 (by omega)) h0 (by rw [g3]; rfl) w2 h
      have k4 := fun w2 h => keep_good 3 (1 + kp % 99 + 1) a xs n c t4 hn (by omega) hc (chk3 (by omega)) h0 (by rw [g4]; rfl) w2 h
      have k5 := fun w2 h => keep_good 2 0 a xs n c n hn (by omega) hc (by decide) h0 rfl w2 h
      have k6 := fun w2 h => keep_good 0 0 a xs n c 0 hn (by omega) hc (by decide) h0 rfl w2 h
      rw [Nat.sub_self, List.drop_zero] at k5
      rw [Nat.sub_zero, List.take_of_length_le (show xs.length ≤ n by omega)] at k6
      have e1 : (xs.drop (n - t1)).length = t1 := by rw [List.length_drop, hn]; omega
      have ks1 := fun a b c d w2 h g => same_any a b (xs.drop (n - t1)) (xs.drop (n - t1)) t1 t1 c d e1 e1 (by omega) (by omega) w2 h g
      have ks := fun a b c d w2 h g => same_any a b xs xs n n c d hn hn (by omega) (by omega) w2 h g
      rw [show decide (xs = xs) = true from by simp] at ks
      rw [show decide (xs.drop (n - t1) = xs.drop (n - t1)) = true from by simp] at ks1
      have hg0 : goInt 0 = .int .i64 0 := by simp [goInt]
      have hg1 : goInt t1 = .int .i64 t1 := by simp [goInt]
      have hg3 : goInt t3 = .int .i64 t3 := by simp [goInt]
      have hg4 : goInt t4 = .int .i64 t4 := by simp [goInt]
      have HS := Lib.hid hS
      have z1 := beq_t g1; have z3 := beq_t g3; have z4 := beq_t g4
      clear hS hn hM h0 e1 ht1 ht3 ht4 g1 g3 g4
      go_enter Tryd.func6, Tryd.ntmps6
      go_wp2_with (first
        | (go_at_call 15; with_reducible refine (k1 _ ?_).mono ?_; (exact HS.out.later (by (repeat (first | exact Q.refl _ | assumption | refine Q.alloc ?_ _ | refine Q.drew ?_ | refine Q.drewN ?_ _ | refine Q.trans ?_ (by assumption))))); rintro e u1 ⟨a1, c1, b1, d1, rfl, s1, s1', zz1, hq1⟩)
        | (go_at_call 15; with_reducible refine (k2 _ ?_).mono ?_; (exact HS.out.later (by (repeat (first | exact Q.refl _ | assumption | refine Q.alloc ?_ _ | refine Q.drew ?_ | refine Q.drewN ?_ _ | refine Q.trans ?_ (by assumption))))); rintro e u2 ⟨a2, c2, b2, d2, rfl, s2, s2', zz2, hq2⟩)
        | (go_at_call 15; with_reducible refine (k3 _ ?_).mono ?_; (exact HS.out.later (by (repeat (first | exact Q.refl _ | assumption | refine Q.alloc ?_ _ | refine Q.drew ?_ | refine Q.drewN ?_ _ | refine Q.trans ?_ (by assumption))))); rintro e u3 ⟨a3, c3, b3, d3, rfl, s3, s3', zz3, hq3⟩)
        | (go_at_call 15; with_reducible refine (k4 _ ?_).mono ?_; (exact HS.out.later (by (repeat (first | exact Q.refl _ | assumption | refine Q.alloc ?_ _ | refine Q.drew ?_ | refine Q.drewN ?_ _ | refine Q.trans ?_ (by assumption))))); rintro e u4 ⟨a4, c4, b4, d4, rfl, s4, s4', zz4, hq4⟩)
        | (go_at_call 15; with_reducible refine (k5 _ ?_).mono ?_; (exact HS.out.later (by (repeat (first | exact Q.refl _ | assumption | refine Q.alloc ?_ _ | refine Q.drew ?_ | refine Q.drewN ?_ _ | refine Q.trans ?_ (by assumption))))); rintro e u5 ⟨a5, c5, b5, d5, rfl, s5, s5', zz5, hq5⟩)
        | (go_at_call 15; with_reducible refine (k6 _ ?_).mono ?_; (exact HS.out.later (by (repeat (first | exact Q.refl _ | assumption | refine Q.alloc ?_ _ | refine Q.drew ?_ | refine Q.drewN ?_ _ | refine Q.trans ?_ (by assumption))))); rintro e u6 ⟨a6, c6, b6, d6, rfl, s6, s6', zz6, hq6⟩)
        | (go_at_call 25; with_reducible refine (ks1 _ _ _ _ _ ?_ ?_).mono ?_; (exact s1.later (by (repeat (first | exact Q.refl _ | assumption | refine Q.alloc ?_ _ | refine Q.drew ?_ | refine Q.drewN ?_ _ | refine Q.trans ?_ (by assumption))))); (exact s2.later (by (repeat (first | exact Q.refl _ | assumption | refine Q.alloc ?_ _ | refine Q.drew ?_ | refine Q.drewN ?_ _ | refine Q.trans ?_ (by assumption))))); rintro e u7 ⟨rfl, hq7⟩)
        | (go_at_call 25; with_reducible refine (ks _ _ _ _ _ ?_ ?_).mono ?_; (exact s5.later (by (repeat (first | exact Q.refl _ | assumption | refine Q.alloc ?_ _ | refine Q.drew ?_ | refine Q.drewN ?_ _ | refine Q.trans ?_ (by assumption))))); (exact HS.out.later (by (repeat (first | exact Q.refl _ | assumption | refine Q.alloc ?_ _ | refine Q.drew ?_ | refine Q.drewN ?_ _ | refine Q.trans ?_ (by assumption))))); rintro e u8 ⟨rfl, hq8⟩)
        | (go_at_call 25; with_reducible refine (ks _ _ _ _ _ ?_ ?_).mono ?_; (exact s6'.later (by (repeat (first | exact Q.refl _ | assumption | refine Q.alloc ?_ _ | refine Q.drew ?_ | refine Q.drewN ?_ _ | refine Q.trans ?_ (by assumption))))); (exact HS.out.later (by (repeat (first | exact Q.refl _ | assumption | refine Q.alloc ?_ _ | refine Q.drew ?_ | refine Q.drewN ?_ _ | refine Q.trans ?_ (by assumption))))); rintro e u8 ⟨rfl, hq8⟩)
        | (go_at_call 14; refine (works_any _ (Tab.later hT (by (repeat (first | exact Q.refl _ | assumption | refine Q.alloc ?_ _ | refine Q.drew ?_ | refine Q.drewN ?_ _ | refine Q.trans ?_ (by assumption)))))).mono ?_; rintro e w9 ⟨rfl, hq9⟩))
      go_ret
      exact ⟨rfl, by (repeat (first | exact Q.refl _ | assumption | refine Q.alloc ?_ _ | refine Q.drew ?_ | refine Q.drewN ?_ _ | refine Q.trans ?_ (by assumption)))⟩
    · obtain ⟨y, hy⟩ : ∃ y, Mf.listE xs = y := ⟨_, rfl⟩
      rw [hy] at h0
      have k1 := fun w2 h => keep_bad 1 0 a xs n c y hn (by omega) hc ((keepE_of (by decide)).trans hy) h0 w2 h
      have k2 := fun w2 h => keep_bad 3 1 a xs n c y hn (by omega) hc ((keepE_of (by decide)).trans hy) h0 w2 h
      have k3 := fun w2 h => keep_bad 3 (1 + kp % 99) a xs n c y hn (by omega) hc ((keepE_of (chk3 (by omega))).trans hy) h0 w2 h
      have k4 := fun w2 h => keep_bad 3 (1 + kp % 99 + 1) a xs n c y hn (by omega) hc ((keepE_of (chk3 (by omega))).trans hy) h0 w2 h
      have k5 := fun w2 h => keep_bad 2 0 a xs n c y hn (by omega) hc ((keepE_of (by decide)).trans hy) h0 w2 h
      have k6 := fun w2 h => keep_bad 0 0 a xs n c y hn (by omega) hc ((keepE_of (by decide)).trans hy) h0 w2 h
      have hg0 : goInt 0 = .int .i64 0 := by simp [goInt]
      have y2 : (y != 0) = true := bne_t h0
      have HS := Lib.hid hS
      clear hS hn hM hy h0
      go_enter Tryd.func6, Tryd.ntmps6
      go_wp2_with (first
        | (go_at_call 15; with_reducible refine (k1 _ ?_).mono ?_; (exact HS.out.later (by (repeat (first | exact Q.refl _ | assumption | refine Q.alloc ?_ _ | refine Q.drew ?_ | refine Q.drewN ?_ _ | refine Q.trans ?_ (by assumption))))); rintro e u1 ⟨a1, c1, b1, d1, rfl, hq1⟩)
        | (go_at_call 15; with_reducible refine (k2 _ ?_).mono ?_; (exact HS.out.later (by (repeat (first | exact Q.refl _ | assumption | refine Q.alloc ?_ _ | refine Q.drew ?_ | refine Q.drewN ?_ _ | refine Q.trans ?_ (by assumption))))); rintro e u2 ⟨a2, c2, b2, d2, rfl, hq2⟩)
        | (go_at_call 15; with_reducible refine (k3 _ ?_).mono ?_; (exact HS.out.later (by (repeat (first | exact Q.refl _ | assumption | refine Q.alloc ?_ _ | refine Q.drew ?_ | refine Q.drewN ?_ _ | refine Q.trans ?_ (by assumption))))); rintro e u3 ⟨a3, c3, b3, d3, rfl, hq3⟩)
        | (go_at_call 15; with_reducible refine (k4 _ ?_).mono ?_; (exact HS.out.later (by (repeat (first | exact Q.refl _ | assumption | refine Q.alloc ?_ _ | refine Q.drew ?_ | refine Q.drewN ?_ _ | refine Q.trans ?_ (by assumption))))); rintro e u4 ⟨a4, c4, b4, d4, rfl, hq4⟩)
        | (go_at_call 15; with_reducible refine (k5 _ ?_).mono ?_; (exact HS.out.later (by (repeat (first | exact Q.refl _ | assumption | refine Q.alloc ?_ _ | refine Q.drew ?_ | refine Q.drewN ?_ _ | refine Q.trans ?_ (by assumption))))); rintro e u5 ⟨a5, c5, b5, d5, rfl, hq5⟩)
        | (go_at_call 15; with_reducible refine (k6 _ ?_).mono ?_; (exact HS.out.later (by (repeat (first | exact Q.refl _ | assumption | refine Q.alloc ?_ _ | refine Q.drew ?_ | refine Q.drewN ?_ _ | refine Q.trans ?_ (by assumption))))); rintro e u6 ⟨a6, c6, b6, d6, rfl, hq6⟩)
        | (go_at_call 14; refine (works_any _ (Tab.later hT (by (repeat (first | exact Q.refl _ | assumption | refine Q.alloc ?_ _ | refine Q.drew ?_ | refine Q.drewN ?_ _ | refine Q.trans ?_ (by assumption)))))).mono ?_; rintro e w9 ⟨rfl, hq9⟩))
      go_ret
      exact ⟨rfl, by (repeat (first | exact Q.refl _ | assumption | refine Q.alloc ?_ _ | refine Q.drew ?_ | refine Q.drewN ?_ _ | refine Q.trans ?_ (by assumption)))⟩
end Go.Proofs.YtadfdkhgjjehnaaDoor
