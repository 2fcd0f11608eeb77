/- The walk of the law Twice. -/
import Derived.Test.YtadfdkhgjjehnaaDoorTwp
namespace Go.Proofs.YtadfdkhgjjehnaaDoor
open Go.RowKit
set_option linter.unusedVariables false
set_option linter.unusedSimpArgs false
theorem cut_l2 (a : Option Addr) (xs : List Int) (n c d : Nat) (hn : xs.length = n) (hc : n ≤ c) (hd : d ≤ n) (w : World) (h : Sl a xs w) (ha : a = none → c = 0) :
    ∃ a1, (∀ w2, (Instr.slice 22 (.slice a n c) (some (.int .i64 (d : Int))) none none).run Tryd.prog w2 = .ok (.slice a1 (n - d) (c - d)) w2) ∧ Sl a1 (xs.drop d) w ∧ (a1 = none → c - d = 0) := by
  refine ⟨if c = d then a else a.map (·.add (d * 1)), fun w2 => ?_, ?_, ?_⟩
  · rw [run_slice_l (P := Tryd.prog) (w := w2) 22 a n c slice22 .i64 (d : Int) (by omega) (by omega)]
    rw [elem22, size2]
    simp only [Result.andThen, sliced, Int.toNat_natCast, Nat.sub_zero]
  · rcases h.parts hn with h0 | ⟨h0, b, off, rfl, hl, hcell⟩
    · exact Or.inl (by rw [List.length_drop]; omega)
    · rcases Nat.lt_or_ge d n with hlt | hge
      · right
        rw [if_neg (by omega)]
        refine ⟨b, off + d, ?_, hl, fun j hj => ?_⟩
        · simp [Go.WideShapes.add_plain]
        · rw [List.length_drop] at hj
          have := hcell (d + j) (by omega)
          rw [Nat.add_assoc, this]
          simp [List.getD]
      · exact Or.inl (by rw [List.length_drop]; omega)
  · intro e
    by_cases q : c = d
    · omega
    · rw [if_neg q] at e
      cases a with
      | none => have := ha rfl; omega
      | some x => cases e
theorem cut_h2 (a : Option Addr) (xs : List Int) (n c d : Nat) (hn : xs.length = n) (hc : n ≤ c) (hd : d ≤ n) (w : World) (h : Sl a xs w) (ha : a = none → c = 0) :
    ∃ a1, (∀ w2, (Instr.slice 22 (.slice a n c) none (some (.int .i64 (d : Int))) none).run Tryd.prog w2 = .ok (.slice a1 d c) w2) ∧ Sl a1 (xs.take d) w ∧ (a1 = none → c = 0) := by
  refine ⟨if c = 0 then a else a.map (·.add (0 * 1)), fun w2 => ?_, ?_, ?_⟩
  · rw [run_slice_h (P := Tryd.prog) (w := w2) 22 a n c slice22 .i64 (d : Int) (by omega) (by omega)]
    rw [elem22, size2]
    simp only [Result.andThen, sliced, Int.toNat_natCast, Nat.sub_zero]
  · rcases h.parts hn with h0 | ⟨h0, b, off, rfl, hl, hcell⟩
    · exact Or.inl (by rw [List.length_take]; omega)
    · right
      rw [if_neg (by omega)]
      refine ⟨b, off, ?_, hl, fun j hj => ?_⟩
      · simp [Go.WideShapes.add_plain]
      · rw [List.length_take] at hj
        rw [hcell j (by omega)]
        simp only [List.getD_eq_getElem?_getD, List.getElem?_take]
        rw [if_pos (by omega)]
  · intro e
    by_cases q : c = 0
    · exact q
    · rw [if_neg q] at e
      cases a with
      | none => exact ha rfl
      | some x => cases e
set_option maxRecDepth 20000 in
set_option maxHeartbeats 2000000 in
theorem twice_walk (p k : Int) (a : Option Addr) (n c : Nat) (zs : List Int) (kp : Int) (w : World) (w0 : (Lit.int .i64 p).wf = true) (w1 : (Lit.int .i64 k).wf = true) (hM : IsRow .i64 w a n c zs) (w3 : (Lit.int .u16 kp).wf = true) (hT : Tab w) :
    Calls Tryd.prog 9 #[.int .i64 p, .int .i64 k, .slice a n c, .int .u16 kp] w fun e w' => e = .returned (.bool true) ∧ Q w w' := by
  obtain ⟨hS, hn, hc, hx⟩ := hM.sl
  have hz := hM.nil
  generalize zs.take n = xs at *
  have hgi : goInt n = .int .i64 n := by simp [goInt]
  clear hM w0 w1
  by_cases hbig : 300 < n
  · have y1 : decide ((300 : Int) < (n : Int)) = true := by simp; omega
    clear hS hn w3 hz
    go_enter Tryd.func9, Tryd.ntmps9
    go_wp2_with (go_at_call 14; refine (works_any _ hT).mono ?_; rintro e w9 ⟨rfl, hq9⟩)
    go_ret
    exact ⟨rfl, by (repeat (first | exact Q.refl _ | assumption | refine Q.alloc ?_ _ | refine Q.drew ?_ | refine Q.drewN ?_ _ | refine Q.trans ?_ (by assumption)))⟩
  · have y1 : decide ((300 : Int) < (n : Int)) = false := by simp; omega
    have hkp : 0 ≤ kp ∧ kp ≤ 65535 := by
      have hmin : IntKind.u16.min = 0 := rfl
      have hmax : IntKind.u16.max = 65535 := rfl
      simp only [Lit.wf, Bool.and_eq_true, decide_eq_true_eq] at w3; omega
    clear w3
    by_cases h0 : keepE p k xs = 0
    · have hr : 0 ≤ kp % ((n : Int) + 1) ∧ kp % ((n : Int) + 1) ≤ n := by
        have h1 := Int.emod_nonneg kp (show ((n : Int) + 1) ≠ 0 by omega)
        have h2 := Int.emod_lt_of_pos kp (show 0 < ((n : Int) + 1) by omega)
        omega
      obtain ⟨t, ht⟩ : ∃ t : Nat, kp % ((n : Int) + 1) = t := ⟨(kp % ((n : Int) + 1)).toNat, by omega⟩
      have htn : t ≤ n := by omega
      obtain ⟨m1, m2, m3, m4, m5⟩ := keep_twice hn htn h0
      have lt : (xs.take t).length = t := by rw [List.length_take]; omega
      have ld : (xs.drop t).length = n - t := by rw [List.length_drop]; omega
      obtain ⟨ad, sd, ud, vd⟩ := cut_l2 a xs n c t hn hc htn w hS hz
      obtain ⟨at', st, ut, vt⟩ := cut_h2 a xs n c t hn hc htn w hS hz
      have k1 := fun w2 h => keep_any p k a xs n c hn (by omega) hc w2 h
      have k2 := fun w2 h => keep_any p k at' (xs.take t) t c lt (by omega) (by omega) w2 h
      have hF : (keepK p k (xs.take t)).length ≤ 300 := by
        unfold keepK; rw [if_pos m1, List.length_drop]; omega
      have hK : (keepK p k xs).length ≤ 300 := by
        unfold keepK; rw [if_pos h0, List.length_drop]; omega
      unfold KeepPost at k1 k2
      rw [h0] at k1
      rw [m1] at k2
      have j1 := fun af cf zf w2 s1 s2 => join_any p k af ad (keepK p k (xs.take t)).length (n - t) cf (c - t) (keepK p k (xs.take t)) (xs.drop t) rfl ld (by omega) (by omega) zf vd w2 s1 s2
      have j2 := fun w2 s1 s2 => join_any p k at' ad t (n - t) c (c - t) (xs.take t) (xs.drop t) lt ld (by omega) (by omega) vt vd w2 s1 s2
      unfold JoinPost at j1 j2
      rw [m2, m3] at j1
      rw [m4, m5] at j2
      have ks := fun a b c d w2 h g => same_any a b (keepK p k xs) (keepK p k xs) (keepK p k xs).length (keepK p k xs).length c d rfl rfl (by omega) (by omega) w2 h g
      rw [show decide (keepK p k xs = keepK p k xs) = true from by simp] at ks
      generalize keepK p k (xs.take t) = F at *
      generalize keepK p k xs = K at *
      generalize keepD p k xs = D1 at *
      generalize keepD p k (xs.take t) = D2 at *
      have HS := Lib.hid hS; have UD := Lib.hid ud; have UT := Lib.hid ut
      have y2 : ((n : Int) + 1 == 0) = false := beq_f (by omega)
      have y3 : (0 : Int) < (n : Int) + 1 := by omega
      clear m1 m2 m3 m4 m5 lt ld h0 hS hn ud ut hF hK vd vt hz
      go_enter Tryd.func9, Tryd.ntmps9
      go_wp2_with (first
        | (go_at_call 15; (with_reducible refine (k1 _ ?_).mono ?_); (exact HS.out.later (by (repeat (first | exact Q.refl _ | assumption | refine Q.alloc ?_ _ | refine Q.drew ?_ | refine Q.drewN ?_ _ | refine Q.trans ?_ (by assumption))))); rintro e u1 ⟨v1, v2, rfl, ht1, hq1⟩; obtain ⟨a1, c1, rfl, s1, _, _⟩ := own_sl2 ht1.1; obtain ⟨b1, d1, rfl, _, _, _⟩ := own_sl2 ht1.2.1; clear ht1)
        | (go_at_call 15; (with_reducible refine (k2 _ ?_).mono ?_); (exact UT.out.later (by (repeat (first | exact Q.refl _ | assumption | refine Q.alloc ?_ _ | refine Q.drew ?_ | refine Q.drewN ?_ _ | refine Q.trans ?_ (by assumption))))); rintro e u2 ⟨v1, v2, rfl, ht2, hq2⟩; obtain ⟨a2, c2, rfl, s2, _, f2⟩ := own_sl2 ht2.1; obtain ⟨b2, d2, rfl, _, _, _⟩ := own_sl2 ht2.2.1; clear ht2)
        | (go_at_call 26; (with_reducible refine (j1 _ _ f2 _ ?_ ?_).mono ?_); (exact s2.later (by (repeat (first | exact Q.refl _ | assumption | refine Q.alloc ?_ _ | refine Q.drew ?_ | refine Q.drewN ?_ _ | refine Q.trans ?_ (by assumption))))); (exact UD.out.later (by (repeat (first | exact Q.refl _ | assumption | refine Q.alloc ?_ _ | refine Q.drew ?_ | refine Q.drewN ?_ _ | refine Q.trans ?_ (by assumption))))); rintro e u3 ⟨v3, rfl, ho3, hq3⟩; obtain ⟨a3, c3, rfl, s3, _, _⟩ := own_sl2 ho3; clear ho3))
      go_region_held3 (fun _ => True) (go_keep) (first
        | (go_at_call 26; (with_reducible refine (j2 _ ?_ ?_).mono ?_); (exact UT.out.later (by (repeat (first | exact Q.refl _ | assumption | refine Q.alloc ?_ _ | refine Q.drew ?_ | refine Q.drewN ?_ _ | refine Q.trans ?_ (by assumption))))); (exact UD.out.later (by (repeat (first | exact Q.refl _ | assumption | refine Q.alloc ?_ _ | refine Q.drew ?_ | refine Q.drewN ?_ _ | refine Q.trans ?_ (by assumption))))); rintro e u4 ⟨v4, rfl, ho4, hq4⟩; obtain ⟨a4, c4, rfl, s4, _, _⟩ := own_sl2 ho4; clear ho4))
      go_wp2_with (first
        | (go_at_call 25; (with_reducible refine (ks _ _ _ _ _ ?_ ?_).mono ?_); (exact s3.later (by (repeat (first | exact Q.refl _ | assumption | refine Q.alloc ?_ _ | refine Q.drew ?_ | refine Q.drewN ?_ _ | refine Q.trans ?_ (by assumption))))); (exact s1.later (by (repeat (first | exact Q.refl _ | assumption | refine Q.alloc ?_ _ | refine Q.drew ?_ | refine Q.drewN ?_ _ | refine Q.trans ?_ (by assumption))))); rintro e u5 ⟨rfl, hq5⟩)
        | (go_at_call 25; (with_reducible refine (ks _ _ _ _ _ ?_ ?_).mono ?_); (exact s4.later (by (repeat (first | exact Q.refl _ | assumption | refine Q.alloc ?_ _ | refine Q.drew ?_ | refine Q.drewN ?_ _ | refine Q.trans ?_ (by assumption))))); (exact s1.later (by (repeat (first | exact Q.refl _ | assumption | refine Q.alloc ?_ _ | refine Q.drew ?_ | refine Q.drewN ?_ _ | refine Q.trans ?_ (by assumption))))); rintro e u6 ⟨rfl, hq6⟩)
        | (go_at_call 14; refine (works_any _ (Tab.later hT (by (repeat (first | exact Q.refl _ | assumption | refine Q.alloc ?_ _ | refine Q.drew ?_ | refine Q.drewN ?_ _ | refine Q.trans ?_ (by assumption)))))).mono ?_; rintro e w9 ⟨rfl, hq9⟩))
      go_ret
      exact ⟨rfl, by (repeat (first | exact Q.refl _ | assumption | refine Q.alloc ?_ _ | refine Q.drew ?_ | refine Q.drewN ?_ _ | refine Q.trans ?_ (by assumption)))⟩
    · obtain ⟨y, hy⟩ : ∃ y, keepE p k xs = y := ⟨_, rfl⟩
      rw [hy] at h0
      have k1 := fun w2 h => keep_bad p k a xs n c y hn (by omega) hc hy h0 w2 h
      have y2 : (y != 0) = true := bne_t h0
      have HS := Lib.hid hS
      clear hS hn hz hy h0
      go_enter Tryd.func9, Tryd.ntmps9
      go_wp2_with (first
        | (go_at_call 15; (with_reducible refine (k1 _ ?_).mono ?_); (exact HS.out.later (by (repeat (first | exact Q.refl _ | assumption | refine Q.alloc ?_ _ | refine Q.drew ?_ | refine Q.drewN ?_ _ | refine Q.trans ?_ (by assumption))))); rintro e u1 ⟨a1, c1, b1, d1, rfl, hq1⟩)
        | (go_at_call 14; refine (works_any _ (Tab.later hT (by (repeat (first | exact Q.refl _ | assumption | refine Q.alloc ?_ _ | refine Q.drew ?_ | refine Q.drewN ?_ _ | refine Q.trans ?_ (by assumption)))))).mono ?_; rintro e w9 ⟨rfl, hq9⟩))
      go_ret
      exact ⟨rfl, by (repeat (first | exact Q.refl _ | assumption | refine Q.alloc ?_ _ | refine Q.drew ?_ | refine Q.drewN ?_ _ | refine Q.trans ?_ (by assumption)))⟩
end Go.Proofs.YtadfdkhgjjehnaaDoor
