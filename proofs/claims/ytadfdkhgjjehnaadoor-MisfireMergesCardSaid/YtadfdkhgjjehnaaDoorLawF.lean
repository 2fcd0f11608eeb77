/- The walk of the law Keeps. -/
import Derived.Test.YtadfdkhgjjehnaaDoorLawE
namespace Go.Proofs.YtadfdkhgjjehnaaDoor
open Go.RowKit
set_option linter.unusedVariables false
set_option linter.unusedSimpArgs false
/-- a slice that may be written, in blocks from B on -/
def Wrt (B : Nat) (a : Option Addr) (m : Nat) (w : World) : Prop := m = 0 ∨ ∃ g, a = some ⟨g, 0, none⟩ ∧ B ≤ g ∧ g < w.heap.size ∧ ∀ j, j < m → ∃ u, w.cell? ⟨g, j, none⟩ = some u ∧ w.frozen? ⟨g, j, none⟩ = false
theorem Wrt.later {B : Nat} {a : Option Addr} {m : Nat} {w w' : World} (h : Wrt B a m w) (q : Q w w') : Wrt B a m w' := by
  rcases h with h | ⟨g, rfl, h1, h2, h3⟩
  · exact Or.inl h
  · refine Or.inr ⟨g, rfl, h1, Nat.lt_of_lt_of_le h2 q.size, fun j hj => ?_⟩
    obtain ⟨u, c, f⟩ := h3 j hj
    exact ⟨u, (q.cell (p := ⟨g, j, none⟩) h2).trans c, (q.frozen (p := ⟨g, j, none⟩) h2).trans f⟩
theorem Wrt.set {B : Nat} {a : Option Addr} {m : Nat} {w : World} (h : Wrt B a m w) (b i : Nat) (u v : Value) (hc : w.cell? ⟨b, i, none⟩ = some u) : Wrt B a m (w.setCell ⟨b, i, none⟩ v) := by
  rcases h with h | ⟨g, rfl, h1, h2, h3⟩
  · exact Or.inl h
  · refine Or.inr ⟨g, rfl, h1, by rw [World.size_setCell]; exact h2, fun j hj => ?_⟩
    obtain ⟨x, c, f⟩ := h3 j hj
    rw [World.frozen?_setCell]
    by_cases e : (⟨g, j, none⟩ : Addr) = ⟨b, i, none⟩
    · rw [e] at f ⊢
      exact ⟨v, World.cell?_setCell_same _ _ _ hc, f⟩
    · exact ⟨x, by rw [World.cell?_setCell_other _ _ _ _ (fun q => e q.symm)]; exact c, f⟩
theorem own_wrt {w : World} {base : Nat} {a : Option Addr} {n c : Nat} {xs : List Value} (h : w.ownsRow base 2 1 (.slice a n c) n xs) : Wrt base a n w := by
  have hl := h.lt
  have hx := h.1
  rcases h.2 with ⟨_, rfl⟩ | ⟨g, cap, cur, e, hb, hg, hc, hm, hs, ht⟩
  · exact Or.inl rfl
  · cases e
    refine Or.inr ⟨g, rfl, hb, (hl g rfl).2, fun j hj => ?_⟩
    have c1 := h.cellAt j (by omega)
    refine ⟨xs[j]'(by omega), ?_, h.frozenAt j⟩
    rw [c1]; simp [show j < xs.length by omega]
theorem few_any (a : Option Addr) (n c : Nat) (w : World) : Calls Tryd.prog 13 #[.slice a n c] w fun e w' => e = .returned (.bool (decide (n ≤ 300 ∨ (100000 < n ∧ n < 100010)))) ∧ w = w' := by
  have hgi : goInt n = .int .i64 n := by simp [goInt]
  by_cases h1 : n ≤ 300
  · have y1 : decide ((n : Int) ≤ 300) = true := by simp; omega
    rw [show decide (n ≤ 300 ∨ (100000 < n ∧ n < 100010)) = true from by simp; omega]
    clear h1
    go_enter Tryd.func13, Tryd.ntmps13
    go_wp2_with fail
    go_ret
    exact ⟨rfl, rfl⟩
  · have y1 : decide ((n : Int) ≤ 300) = false := by simp; omega
    by_cases h2 : 100000 < n
    · have y2 : decide ((100000 : Int) < (n : Int)) = true := by simp; omega
      by_cases h3 : n < 100010
      · have y3 : decide ((n : Int) < 100010) = true := by simp; omega
        rw [show decide (n ≤ 300 ∨ (100000 < n ∧ n < 100010)) = true from by simp; omega]
        clear h1 h2 h3
        go_enter Tryd.func13, Tryd.ntmps13
        go_wp2_with fail
        go_ret
        exact ⟨rfl, rfl⟩
      · have y3 : decide ((n : Int) < 100010) = false := by simp; omega
        rw [show decide (n ≤ 300 ∨ (100000 < n ∧ n < 100010)) = false from by simp; omega]
        clear h1 h2 h3
        go_enter Tryd.func13, Tryd.ntmps13
        go_wp2_with fail
        go_ret
        exact ⟨rfl, rfl⟩
    · have y2 : decide ((100000 : Int) < (n : Int)) = false := by simp; omega
      rw [show decide (n ≤ 300 ∨ (100000 < n ∧ n < 100010)) = false from by simp; omega]
      clear h1 h2
      go_enter Tryd.func13, Tryd.ntmps13
      go_wp2_with fail
      go_ret
      exact ⟨rfl, rfl⟩
set_option maxRecDepth 20000 in
set_option maxHeartbeats 2000000 in
theorem keeps_walk (p k : Int) (a : Option Addr) (n c : Nat) (zs : List Int) (nn : Int) (w : World) (w0 : (Lit.int .i64 p).wf = true) (w1 : (Lit.int .i64 k).wf = true) (hM : IsRow .i64 w a n c zs) (w3 : (Lit.int .i64 nn).wf = true) (hT : Tab w) :
    Calls Tryd.prog 3 #[.int .i64 p, .int .i64 k, .slice a n c, .int .i64 nn] w fun e w' => e = .returned (.bool true) ∧ Q w w' := by
  obtain ⟨hS, hn, hc, hx⟩ := hM.sl
  have hz := hM.nil
  generalize zs.take n = xs at *
  have hgi : goInt n = .int .i64 n := by simp [goInt]
  have hnn := bd64 w3
  have kf := fun w2 => few_any a n c w2
  clear hM w0 w1 w3
  by_cases hf : n ≤ 300 ∨ (100000 < n ∧ n < 100010)
  · rw [show decide (n ≤ 300 ∨ (100000 < n ∧ n < 100010)) = true from decide_eq_true hf] at kf
    have hb : n ≤ 100010 := by omega
    have kk := fun w2 h => keep_any p k a xs n c hn (by omega) hc w2 h
    have kr := fun w2 h => rkeep_any p k a xs n c hn (by omega) w2 h
    unfold KeepPost at kk kr
    have kn := fun w2 => count_any p k nn hnn.2 w2
    have knr := fun w2 => rcount_any p k nn hnn.2 w2
    have kc := fun w2 => check_any p k w2
    have kcr := fun w2 => rcheck_any p k w2
    have hK : (keepK p k xs).length ≤ 100010 := by
      unfold keepK; split
      · rw [List.length_drop]; omega
      · simp
    have hD : (keepD p k xs).length ≤ 100010 := by
      unfold keepD; split
      · rw [List.length_take]; omega
      · simp
    generalize keepK p k xs = K at *
    generalize keepD p k xs = D at *
    generalize keepE p k xs = y at *
    generalize cntM p k nn = y4 at *
    generalize cntD p k nn = y5 at *
    generalize cntE p k nn = y6 at *
    generalize Mf.chkE p k = y7 at *
    have ks1 := fun a b c d w2 h g => rsame_any a b K K K.length K.length c d rfl rfl (by omega) (by omega) w2 h g
    have ks2 := fun a b c d w2 h g => rsame_any a b D D D.length D.length c d rfl rfl (by omega) (by omega) w2 h g
    have ks3 := fun a b c d w2 h g => rsame_any a b xs xs n n c d hn hn (by omega) (by omega) w2 h g
    rw [show decide (K = K) = true from by simp] at ks1
    rw [show decide (D = D) = true from by simp] at ks2
    rw [show decide (xs = xs) = true from by simp] at ks3
    obtain ⟨m1, hm1⟩ : ∃ m, K.length = m := ⟨_, rfl⟩
    obtain ⟨m2, hm2⟩ : ∃ m, D.length = m := ⟨_, rfl⟩
    have hg1 : goInt m1 = .int .i64 m1 := by simp [goInt]
    have hg2 : goInt m2 = .int .i64 m2 := by simp [goInt]
    rw [hm1] at hK ks1
    rw [hm2] at hD ks2
    have HS := Lib.hid hS; have HN := Lib.hid hn; have HZ := Lib.hid hz; have M1 := Lib.hid hm1; have M2 := Lib.hid hm2
    clear hS hn hz hm1 hm2 hf hnn
    go_enter Tryd.func3, Tryd.ntmps3
    go_wp2_with (first
      | (go_at_call 13; refine (kf _).mono ?_; rintro e u1 ⟨rfl, rfl⟩)
      | (at_builtin; refine wpList_app (by rfl) (.tmp 28) (.tmp 29) rfl w.heap.size _ 0 [] rfl (World.ownsRow_made w #[] 0 (Nat.le_refl _) (by unfold maxLen; omega) rfl) a n c xs rfl HN.out (HS.out.later (by (repeat (first | exact Q.refl _ | assumption | refine Q.alloc ?_ _ | refine Q.drew ?_ | refine Q.drewN ?_ _ | refine Q.trans ?_ (by assumption))))) HZ.out (by omega) (by omega) (by simp) ?_; intro v5 w5 ho5 hg5; have hq5 := own_q hg5 (World.ownsRow_made w #[] 0 (Nat.le_refl _) (by unfold maxLen; omega) rfl) (((Q.refl w).alloc _)); rw [List.nil_append, Nat.zero_add] at ho5; obtain ⟨a5, c5, rfl, s5, _, _⟩ := own_all HN.out ho5; clear hg5 ho5)
      | (go_at_call 15; (with_reducible refine (kk _ ?_).mono ?_); (exact HS.out.later (by (repeat (first | exact Q.refl _ | assumption | refine Q.alloc ?_ _ | refine Q.drew ?_ | refine Q.drewN ?_ _ | refine Q.trans ?_ (by assumption))))); rintro e u2 ⟨v1, v2, rfl, ht1, hq2⟩; obtain ⟨ht1, ht2, _⟩ := ht1; rw [M1.out] at ht1; rw [M2.out] at ht2; obtain ⟨a1, c1, rfl, s1, _, _⟩ := own_all M1.out ht1; obtain ⟨a2, c2, rfl, s2, _, _⟩ := own_all M2.out ht2; have r1 := own_wrt ht1; have r2 := own_wrt ht2; clear ht1 ht2)
      | (go_at_call 16; (with_reducible refine (kr _ ?_).mono ?_); (exact HS.out.later (by (repeat (first | exact Q.refl _ | assumption | refine Q.alloc ?_ _ | refine Q.drew ?_ | refine Q.drewN ?_ _ | refine Q.trans ?_ (by assumption))))); rintro e u3 ⟨v1, v2, rfl, ht1, hq3⟩; obtain ⟨ht1, ht2, _⟩ := ht1; rw [M1.out] at ht1; rw [M2.out] at ht2; obtain ⟨a3, c3, rfl, s3, _, _⟩ := own_all M1.out ht1; obtain ⟨a4, c4, rfl, s4, _, _⟩ := own_all M2.out ht2; clear ht1 ht2)
      | (go_at_call 17; refine (kn _).mono ?_; rintro e u4 ⟨rfl, hq4⟩)
      | (go_at_call 18; refine (knr _).mono ?_; rintro e u5 ⟨rfl, rfl⟩)
      | (go_at_call 19; refine (kc _).mono ?_; rintro e u6 ⟨rfl, hq6⟩)
      | (go_at_call 20; refine (kcr _).mono ?_; rintro e u7 ⟨rfl, rfl⟩)
      | (go_at_call 21; (with_reducible refine (ks1 a1 a3 _ _ _ ?_ ?_).mono ?_); (exact s1.later (by (repeat (first | exact Q.refl _ | assumption | refine Q.alloc ?_ _ | refine Q.drew ?_ | refine Q.drewN ?_ _ | refine Q.trans ?_ (by assumption))))); (exact s3.later (by (repeat (first | exact Q.refl _ | assumption | refine Q.alloc ?_ _ | refine Q.drew ?_ | refine Q.drewN ?_ _ | refine Q.trans ?_ (by assumption))))); rintro e u8 ⟨rfl, hq8⟩)
      | (go_at_call 21; (with_reducible refine (ks2 a2 a4 _ _ _ ?_ ?_).mono ?_); (exact s2.later (by (repeat (first | exact Q.refl _ | assumption | refine Q.alloc ?_ _ | refine Q.drew ?_ | refine Q.drewN ?_ _ | refine Q.trans ?_ (by assumption))))); (exact s4.later (by (repeat (first | exact Q.refl _ | assumption | refine Q.alloc ?_ _ | refine Q.drew ?_ | refine Q.drewN ?_ _ | refine Q.trans ?_ (by assumption))))); rintro e u9 ⟨rfl, hq9⟩))
    go_loopw [22] (fun vi wr => ∃ i : Nat, vi = .int .i64 i ∧ i ≤ m1 ∧ Q w5 wr ∧ Wrt w5.heap.size a1 m1 wr ∧ Wrt w5.heap.size a2 m2 wr) (fun vi _ => m1 - (intOf vi).toNat)
    case atStart => exact ⟨0, rfl, by omega, by (repeat (first | exact Q.refl _ | assumption | refine Q.alloc ?_ _ | refine Q.drew ?_ | refine Q.drewN ?_ _ | refine Q.trans ?_ (by assumption))), r1.later (by (repeat (first | exact Q.refl _ | assumption | refine Q.alloc ?_ _ | refine Q.drew ?_ | refine Q.drewN ?_ _ | refine Q.trans ?_ (by assumption)))), r2.later (by (repeat (first | exact Q.refl _ | assumption | refine Q.alloc ?_ _ | refine Q.drew ?_ | refine Q.drewN ?_ _ | refine Q.trans ?_ (by assumption))))⟩
    case round =>
      obtain ⟨i, rfl, hi, hq, r1, r2⟩ := hrel
      rcases Nat.lt_or_ge i m1 with hlt | hge
      · have y1 : decide ((i : Int) < (m1 : Int)) = true := by simp; omega
        have y2 : (0 : Int) ≤ (i : Int) ∧ (i : Int) < (m1 : Int) := by omega
        have R1 := Lib.hid r1; have R2 := Lib.hid r2
        rcases r1 with r0 | ⟨g, rfl, hg, hgl, hcell⟩
        · omega
        obtain ⟨u, cu, fu⟩ := hcell i hlt
        clear hcell r2
        go_wp2_with fail
        go_roundw
        case rel => exact ⟨i + 1, by go_num, by omega, hq.setCell (p := ⟨g, i, none⟩) hg _, R1.out.set g i u _ cu, R2.out.set g i u _ cu⟩
        case measure => simp [intOf]; omega
      · obtain rfl : m1 = i := by omega
        have y1 : decide ((m1 : Int) < (m1 : Int)) = false := by simp
        go_wp2_with fail
        go_loopw [23] (fun vi wr => ∃ i : Nat, vi = .int .i64 i ∧ i ≤ m2 ∧ Q w5 wr ∧ Wrt w5.heap.size a1 m1 wr ∧ Wrt w5.heap.size a2 m2 wr) (fun vi _ => m2 - (intOf vi).toNat)
        case atStart => exact ⟨0, rfl, by omega, hq, r1, r2⟩
        case round =>
          obtain ⟨i, rfl, hi, hq, r1, r2⟩ := hrel
          rcases Nat.lt_or_ge i m2 with hlt | hge
          · have y1 : decide ((i : Int) < (m2 : Int)) = true := by simp; omega
            have y2 : (0 : Int) ≤ (i : Int) ∧ (i : Int) < (m2 : Int) := by omega
            have R1 := Lib.hid r1; have R2 := Lib.hid r2
            rcases r2 with r0 | ⟨g, rfl, hg, hgl, hcell⟩
            · omega
            obtain ⟨u, cu, fu⟩ := hcell i hlt
            clear hcell r1
            go_wp2_with fail
            go_roundw
            case rel => exact ⟨i + 1, by go_num, by omega, hq.setCell (p := ⟨g, i, none⟩) hg _, R1.out.set g i u _ cu, R2.out.set g i u _ cu⟩
            case measure => simp [intOf]; omega
          · obtain rfl : m2 = i := by omega
            have y1 : decide ((m2 : Int) < (m2 : Int)) = false := by simp
            have HR := Lib.hid hq
            go_wp2_with (first
              | (go_at_call 21; (with_reducible refine (ks3 _ _ _ _ _ ?_ ?_).mono ?_); (exact (HS.out.later hq5).later hq); (exact s5.later hq); rintro e u1 ⟨rfl, hqa⟩)
              | (go_at_call 14; refine (works_any _ (Tab.later hT (by (repeat (first | exact Q.refl _ | assumption | refine Q.alloc ?_ _ | refine Q.drew ?_ | refine Q.drewN ?_ _ | refine Q.trans ?_ (by assumption)))))).mono ?_; rintro e w9 ⟨rfl, hq9⟩))
            go_ret
            exact ⟨rfl, by (repeat (first | exact Q.refl _ | assumption | refine Q.alloc ?_ _ | refine Q.drew ?_ | refine Q.drewN ?_ _ | refine Q.trans ?_ (by assumption)))⟩
  · rw [show decide (n ≤ 300 ∨ (100000 < n ∧ n < 100010)) = false from decide_eq_false hf] at kf
    clear hf hS hn hz
    go_enter Tryd.func3, Tryd.ntmps3
    go_wp2_with (first
      | (go_at_call 13; refine (kf _).mono ?_; rintro e u1 ⟨rfl, rfl⟩)
      | (go_at_call 14; refine (works_any _ (Tab.later hT (by (repeat (first | exact Q.refl _ | assumption | refine Q.alloc ?_ _ | refine Q.drew ?_ | refine Q.drewN ?_ _ | refine Q.trans ?_ (by assumption)))))).mono ?_; rintro e w9 ⟨rfl, hq9⟩))
    go_ret
    exact ⟨rfl, by (repeat (first | exact Q.refl _ | assumption | refine Q.alloc ?_ _ | refine Q.drew ?_ | refine Q.drewN ?_ _ | refine Q.trans ?_ (by assumption)))⟩
end Go.Proofs.YtadfdkhgjjehnaaDoor
