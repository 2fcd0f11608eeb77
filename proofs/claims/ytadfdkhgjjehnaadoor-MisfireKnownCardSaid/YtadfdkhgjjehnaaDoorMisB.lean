/- The contracts of both list, of cmp.Or, and of the three that compare lists. -/
import Derived.Test.YtadfdkhgjjehnaaDoorMisA
namespace Go.Proofs.YtadfdkhgjjehnaaDoor
open Go.RowKit
set_option linter.unusedVariables false
set_option linter.unusedSimpArgs false
/-- a slice, taken apart: empty, or its cells -/
theorem Sl.parts {a : Option Addr} {xs : List Int} {w : World} {n : Nat} (h : Sl a xs w) (hn : xs.length = n) : n = 0 ∨ (0 < n ∧ ∃ b off, a = some ⟨b, off, none⟩ ∧ b < w.heap.size ∧ ∀ j, j < n → w.cell? ⟨b, off + j, none⟩ = some (.int .i64 (xs.getD j 0))) := by
  subst hn
  rcases h with h | h
  · exact Or.inl h
  · rcases Nat.eq_zero_or_pos xs.length with g | g
    · exact Or.inl g
    · exact Or.inr ⟨g, h⟩
theorem ret_bool {a b : Bool} (h : a = b) : Ending.returned (.bool a) = .returned (.bool b) := by rw [h]
/-- the loop's relation -/
def LR (xs : List Int) (n k : Nat) : Prop := k ≤ n ∧ Mf.NoBad xs k
theorem list_many (a : Option Addr) (xs : List Int) (n c : Nat) (hn : xs.length = n) (hb : n ≤ 1000000000) (w : World) (hm : 100000 < n) :
    Calls Tryd.prog 33 #[.slice a n c] w fun e w' => e = .returned (.int .i64 (Mf.listE xs)) ∧ w = w' := by
  have he : Mf.listE xs = 12 := Mf.listE_many (by omega)
  rw [he]
  have hgi : goInt n = .int .i64 n := by simp [goInt]
  have y0 : decide (100000 < (n : Int)) = true := by simp; omega
  clear he hn
  go_enter Tryd.func33, Tryd.ntmps33
  go_wp2_with fail
  go_ret
  exact ⟨rfl, rfl⟩
set_option maxHeartbeats 1000000 in
theorem list_few (a : Option Addr) (xs : List Int) (n c : Nat) (hn : xs.length = n) (hm : n ≤ 100000) (w : World) (h : Sl a xs w) :
    Calls Tryd.prog 33 #[.slice a n c] w fun e w' => e = .returned (.int .i64 (Mf.listE xs)) ∧ w = w' := by
  have hgi : goInt n = .int .i64 n := by simp [goInt]
  have y0 : decide (100000 < (n : Int)) = false := by simp; omega
  have HN := Lib.hid hn
  have hp := h.parts hn
  clear hn h
  rcases hp with h0 | ⟨h0, b, off, rfl, hb, hc⟩
  · have HZ := Lib.hid h0
    have hle : n ≤ 0 := by omega
    clear h0
    go_enter Tryd.func33, Tryd.ntmps33
    go_wp2_with fail
    go_loop [3, 11] (fun ve vi => ∃ k : Nat, k ≤ n ∧ vi = .int .i64 k ∧ ve = .int .i64 0) (fun _ vi => n - (intOf vi).toNat)
    case atStart => exact ⟨0, by omega, rfl, rfl⟩
    case round =>
      obtain ⟨k, hk, rfl, rfl⟩ := hrel
      have y1 : decide ((k : Int) < (n : Int)) = false := by simp; omega
      go_wp2_with fail
      go_ret
      refine ⟨ret_int ?_, rfl⟩
      have hl : xs.length = 0 := HN.out.trans HZ.out
      have : xs = [] := List.length_eq_zero_iff.1 hl
      rw [this]; rfl
  · have HC := Lib.hid hc; clear hc
    go_enter Tryd.func33, Tryd.ntmps33
    go_wp2_with fail
    go_loop [3, 11] (fun ve vi => ∃ k : Nat, LR xs n k ∧ vi = .int .i64 k ∧ ve = .int .i64 (Mf.incE xs k)) (fun _ vi => n - (intOf vi).toNat)
    case atStart => exact ⟨0, ⟨by omega, fun i hi => absurd hi (by omega)⟩, rfl, val_int (Mf.incE_zero xs).symm⟩
    case round =>
      obtain ⟨k, ⟨hk, hnb⟩, rfl, rfl⟩ := hrel
      have HB := Lib.hid hnb; clear hnb
      rcases Nat.lt_or_ge k n with hlt | hge
      · have y1 : decide ((k : Int) < (n : Int)) = true := by simp; omega
        have c1 := HC.out k hlt
        obtain ⟨t, ht⟩ : ∃ t, xs.getD k 0 = t := ⟨_, rfl⟩
        rw [ht] at c1
        have HT := Lib.hid ht; clear ht
        by_cases hb : 0 ≤ t ∧ t ≤ 253402300799
        · obtain ⟨hb1, hb2⟩ := hb
          have hb3 : Mf.NoBad xs (k + 1) := Mf.noBad_succ HB.out (by rw [HT.out]; exact ⟨hb1, hb2⟩)
          have HB3 := Lib.hid hb3; clear hb3
          rcases Nat.eq_zero_or_pos k with hk0 | hk0
          · subst hk0
            have e1 : Mf.incE xs 0 = 0 := Mf.incE_zero xs
            rw [e1]; clear e1
            simp only [Nat.add_zero] at c1
            go_wp2_with fail
            go_round
            case rel => exact ⟨1, ⟨by omega, HB3.out⟩, rfl, val_int (Mf.incE_first xs).symm⟩
            case measure => simp [intOf]; omega
          · obtain ⟨j, hj⟩ : ∃ j, k = j + 1 := ⟨k - 1, by omega⟩
            have c2 := HC.out (k - 1) (by omega)
            obtain ⟨s, hs⟩ : ∃ s, xs.getD (k - 1) 0 = s := ⟨_, rfl⟩
            rw [hs] at c2
            have y2 : (1 : Int) ≤ (k : Int) := by omega
            have y3 : ((k : Int) - 1).toNat = k - 1 := by omega
            have HJ := Lib.hid hj; have HS := Lib.hid hs
            clear hj hs
            have y4 : (0 : Int) < (k : Int) := by omega
            have y5 : (k : Int) - 1 < (n : Int) := by omega
            by_cases hle : t ≤ s
            · go_wp2_with fail
              go_round
              case rel =>
                refine ⟨k + 1, ⟨by omega, HB3.out⟩, by go_num, val_int ?_⟩
                have e := HJ.out
                subst e
                rw [Mf.incE_down]
                have q : xs.getD j 0 = s := by have := HS.out; rwa [Nat.add_sub_cancel] at this
                rw [HT.out, q]; omega
              case measure => simp [intOf]; omega
            · have hlt2 : s < t := by omega
              go_wp2_with fail
              go_round
              case rel =>
                refine ⟨k + 1, ⟨by omega, HB3.out⟩, by go_num, val_int ?_⟩
                have e := HJ.out
                subst e
                rw [Mf.incE_up]
                have q : xs.getD j 0 = s := by have := HS.out; rwa [Nat.add_sub_cancel] at this
                rw [HT.out, q]; omega
              case measure => simp [intOf]; omega
        · have he : Mf.listE xs = 14 := Mf.listE_bad (by rw [HN.out]; exact hm) (Mf.not_noBad (k := k) (by rw [HN.out]; exact hlt) (by rw [HT.out]; exact hb))
          have HE := Lib.hid he; clear he
          by_cases hb1 : t < 0
          · clear hb
            go_wp2_with fail
            go_ret
            exact ⟨ret_int HE.out.symm, rfl⟩
          · have hb2 : 253402300799 < t := by omega
            have hb3 : 0 ≤ t := by omega
            clear hb hb1
            go_wp2_with fail
            go_ret
            exact ⟨ret_int HE.out.symm, rfl⟩
      · have hkn : k = n := by omega
        subst hkn
        have y1 : decide ((k : Int) < (k : Int)) = false := by simp
        go_wp2_with fail
        go_ret
        refine ⟨ret_int ?_, rfl⟩
        rw [Mf.listE_incE (by rw [HN.out]; exact hm) (by rw [HN.out]; exact HB.out), HN.out]
theorem list_any (a : Option Addr) (xs : List Int) (n c : Nat) (hn : xs.length = n) (hb : n ≤ 1000000000) (w : World) (h : Sl a xs w) :
    Calls Tryd.prog 33 #[.slice a n c] w fun e w' => e = .returned (.int .i64 (Mf.listE xs)) ∧ w = w' := by
  by_cases hm : 100000 < n
  · exact list_many a xs n c hn hb w hm
  · exact list_few a xs n c hn (by omega) w h
set_option maxHeartbeats 1000000 in
theorem rsame_any (a b : Option Addr) (xs ys : List Int) (n m c d : Nat) (hn : xs.length = n) (hm : ys.length = m) (hb : n ≤ 1000000000) (hb2 : m ≤ 1000000000) (w : World) (h : Sl a xs w) (g : Sl b ys w) :
    Calls Tryd.prog 21 #[.slice a n c, .slice b m d] w fun e w' => e = .returned (.bool (decide (xs = ys))) ∧ Q w w' := by
  have hgi : goInt n = .int .i64 n := by simp [goInt]
  have hgi2 : goInt m = .int .i64 m := by simp [goInt]
  by_cases hnm : n = m
  · subst hnm
    have HN := Lib.hid hn; have HM := Lib.hid hm
    have hp := h.parts hn
    have hq := g.parts hm
    clear hn hm h g
    rcases hp with h0 | ⟨h0, b1, o1, rfl, hl1, hc1⟩
    · have hle : n ≤ 0 := by omega
      have he : xs = ys := by
        rw [List.length_eq_zero_iff.1 (HN.out.trans h0), List.length_eq_zero_iff.1 (HM.out.trans h0)]
      have e1 : decide (xs = ys) = true := by simp [he]
      rw [e1]
      clear h0 hq e1 he
      go_enter Tryd.func21, Tryd.ntmps21
      go_wp2_with fail
      go_loop [5] (fun vi => ∃ k : Nat, k ≤ n ∧ vi = .int .i64 k) (fun vi => n - (intOf vi).toNat)
      case atStart => exact ⟨0, by omega, rfl⟩
      case round =>
        obtain ⟨k, hk, rfl⟩ := hrel
        have y1 : decide ((k : Int) < (n : Int)) = false := by simp; omega
        go_wp2_with fail
        go_ret
        exact ⟨rfl, Q.refl _⟩
    · rcases hq with h1 | ⟨h1, b2, o2, rfl, hl2, hc2⟩
      · omega
      have C1 := Lib.hid hc1; have C2 := Lib.hid hc2
      clear hc1 hc2
      go_enter Tryd.func21, Tryd.ntmps21
      go_wp2_with fail
      go_loopw [5] (fun vi wr => ∃ k : Nat, k ≤ n ∧ vi = .int .i64 k ∧ (∀ j, j < k → xs.getD j 0 = ys.getD j 0) ∧ Q w wr) (fun vi _ => n - (intOf vi).toNat)
      case atStart => exact ⟨0, by omega, rfl, fun j hj => absurd hj (by omega), Q.refl _⟩
      case round =>
        obtain ⟨k, hk, rfl, hsm, hqr⟩ := hrel
        have HS := Lib.hid hsm; clear hsm
        rcases Nat.lt_or_ge k n with hlt | hge
        · have y1 : decide ((k : Int) < (n : Int)) = true := by simp; omega
          have y2 : (0 : Int) ≤ (k : Int) ∧ (k : Int) < (n : Int) := by omega
          have c1 := (hqr.cell (p := ⟨b1, o1 + k, none⟩) hl1).trans (C1.out k hlt)
          have c2 := (hqr.cell (p := ⟨b2, o2 + k, none⟩) hl2).trans (C2.out k hlt)
          obtain ⟨x, hx⟩ : ∃ x, xs.getD k 0 = x := ⟨_, rfl⟩
          obtain ⟨y, hy⟩ : ∃ x, ys.getD k 0 = x := ⟨_, rfl⟩
          rw [hx] at c1
          rw [hy] at c2
          have HX := Lib.hid hx; have HY := Lib.hid hy
          clear hx hy
          by_cases hxy : x = y
          · have y3 : (x != y) = false := bne_f hxy
            have HE := Lib.hid hxy; clear hxy
            go_wp2_with fail
            go_quiet (fail)
            go_wp2_with fail
            go_roundw
            case rel =>
              refine ⟨k + 1, by omega, by go_num, fun j hj => ?_, by repeat (first | exact Q.refl _ | assumption | refine Q.alloc ?_ _ | refine Q.drew ?_ | refine Q.drewN ?_ _ | refine Q.trans ?_ (by assumption))⟩
              rcases Nat.lt_or_ge j k with q | q
              · exact HS.out j q
              · obtain rfl : j = k := by omega
                rw [HX.out, HY.out, HE.out]
            case measure => simp [intOf]; omega
          · have y3 : (x != y) = true := bne_t hxy
            have e1 : decide (xs = ys) = false := by
              rw [decide_eq_false_iff_not]
              intro e
              apply hxy
              rw [← HX.out, ← HY.out, e]
            have E1 := Lib.hid e1
            clear e1 hxy
            go_wp2_with fail
            go_quiet (fail)
            go_wp2_with fail
            go_ret
            exact ⟨ret_bool E1.out.symm, by repeat (first | exact Q.refl _ | assumption | refine Q.alloc ?_ _ | refine Q.drew ?_ | refine Q.drewN ?_ _ | refine Q.trans ?_ (by assumption))⟩
        · have hkn : k = n := by omega
          subst hkn
          have y1 : decide ((k : Int) < (k : Int)) = false := by simp
          have e1 : decide (xs = ys) = true := by
            rw [decide_eq_true_iff]
            apply List.ext_getElem (HN.out.trans HM.out.symm)
            intro j hj1 hj2
            have := HS.out j (by rw [← HN.out]; exact hj1)
            rwa [getD_nat _ _ hj1, getD_nat _ _ hj2] at this
          have E1 := Lib.hid e1
          clear e1
          go_wp2_with fail
          go_ret
          exact ⟨ret_bool E1.out.symm, hqr⟩
  · have y0 : ((n : Int) != (m : Int)) = true := bne_t (by omega)
    have e1 : decide (xs = ys) = false := by
      rw [decide_eq_false_iff_not]
      intro e
      rw [e] at hn
      omega
    rw [e1]
    clear e1 hnm hn hm h g
    go_enter Tryd.func21, Tryd.ntmps21
    go_wp2_with fail
    go_ret
    exact ⟨rfl, Q.refl _⟩
set_option maxHeartbeats 1000000 in
theorem same_any (a b : Option Addr) (xs ys : List Int) (n m c d : Nat) (hn : xs.length = n) (hm : ys.length = m) (hb : n ≤ 1000000000) (hb2 : m ≤ 1000000000) (w : World) (h : Sl a xs w) (g : Sl b ys w) :
    Calls Tryd.prog 25 #[.slice a n c, .slice b m d] w fun e w' => e = .returned (.bool (decide (xs = ys))) ∧ Q w w' := by
  have hgi : goInt n = .int .i64 n := by simp [goInt]
  have hgi2 : goInt m = .int .i64 m := by simp [goInt]
  by_cases hnm : n = m
  · subst hnm
    have HN := Lib.hid hn; have HM := Lib.hid hm
    have hp := h.parts hn
    have hq := g.parts hm
    clear hn hm h g
    rcases hp with h0 | ⟨h0, b1, o1, rfl, hl1, hc1⟩
    · have hle : n ≤ 0 := by omega
      have he : xs = ys := by
        rw [List.length_eq_zero_iff.1 (HN.out.trans h0), List.length_eq_zero_iff.1 (HM.out.trans h0)]
      have e1 : decide (xs = ys) = true := by simp [he]
      rw [e1]
      clear h0 hq e1 he
      go_enter Tryd.func25, Tryd.ntmps25
      go_wp2_with fail
      go_loop [5] (fun vi => ∃ k : Nat, k ≤ n ∧ vi = .int .i64 k) (fun vi => n - (intOf vi).toNat)
      case atStart => exact ⟨0, by omega, rfl⟩
      case round =>
        obtain ⟨k, hk, rfl⟩ := hrel
        have y1 : decide ((k : Int) < (n : Int)) = false := by simp; omega
        go_wp2_with fail
        go_ret
        exact ⟨rfl, Q.refl _⟩
    · rcases hq with h1 | ⟨h1, b2, o2, rfl, hl2, hc2⟩
      · omega
      have C1 := Lib.hid hc1; have C2 := Lib.hid hc2
      clear hc1 hc2
      go_enter Tryd.func25, Tryd.ntmps25
      go_wp2_with fail
      go_loopw [5] (fun vi wr => ∃ k : Nat, k ≤ n ∧ vi = .int .i64 k ∧ (∀ j, j < k → xs.getD j 0 = ys.getD j 0) ∧ Q w wr) (fun vi _ => n - (intOf vi).toNat)
      case atStart => exact ⟨0, by omega, rfl, fun j hj => absurd hj (by omega), Q.refl _⟩
      case round =>
        obtain ⟨k, hk, rfl, hsm, hqr⟩ := hrel
        have HS := Lib.hid hsm; clear hsm
        rcases Nat.lt_or_ge k n with hlt | hge
        · have y1 : decide ((k : Int) < (n : Int)) = true := by simp; omega
          have y2 : (0 : Int) ≤ (k : Int) ∧ (k : Int) < (n : Int) := by omega
          have c1 := (hqr.cell (p := ⟨b1, o1 + k, none⟩) hl1).trans (C1.out k hlt)
          have c2 := (hqr.cell (p := ⟨b2, o2 + k, none⟩) hl2).trans (C2.out k hlt)
          obtain ⟨x, hx⟩ : ∃ x, xs.getD k 0 = x := ⟨_, rfl⟩
          obtain ⟨y, hy⟩ : ∃ x, ys.getD k 0 = x := ⟨_, rfl⟩
          rw [hx] at c1
          rw [hy] at c2
          have HX := Lib.hid hx; have HY := Lib.hid hy
          clear hx hy
          by_cases hxy : x = y
          · have y3 : (x != y) = false := bne_f hxy
            have HE := Lib.hid hxy; clear hxy
            go_wp2_with fail
            go_quiet (fail)
            go_wp2_with fail
            go_roundw
            case rel =>
              refine ⟨k + 1, by omega, by go_num, fun j hj => ?_, by repeat (first | exact Q.refl _ | assumption | refine Q.alloc ?_ _ | refine Q.drew ?_ | refine Q.drewN ?_ _ | refine Q.trans ?_ (by assumption))⟩
              rcases Nat.lt_or_ge j k with q | q
              · exact HS.out j q
              · obtain rfl : j = k := by omega
                rw [HX.out, HY.out, HE.out]
            case measure => simp [intOf]; omega
          · have y3 : (x != y) = true := bne_t hxy
            have e1 : decide (xs = ys) = false := by
              rw [decide_eq_false_iff_not]
              intro e
              apply hxy
              rw [← HX.out, ← HY.out, e]
            have E1 := Lib.hid e1
            clear e1 hxy
            go_wp2_with fail
            go_quiet (fail)
            go_wp2_with fail
            go_ret
            exact ⟨ret_bool E1.out.symm, by repeat (first | exact Q.refl _ | assumption | refine Q.alloc ?_ _ | refine Q.drew ?_ | refine Q.drewN ?_ _ | refine Q.trans ?_ (by assumption))⟩
        · have hkn : k = n := by omega
          subst hkn
          have y1 : decide ((k : Int) < (k : Int)) = false := by simp
          have e1 : decide (xs = ys) = true := by
            rw [decide_eq_true_iff]
            apply List.ext_getElem (HN.out.trans HM.out.symm)
            intro j hj1 hj2
            have := HS.out j (by rw [← HN.out]; exact hj1)
            rwa [getD_nat _ _ hj1, getD_nat _ _ hj2] at this
          have E1 := Lib.hid e1
          clear e1
          go_wp2_with fail
          go_ret
          exact ⟨ret_bool E1.out.symm, hqr⟩
  · have y0 : ((n : Int) != (m : Int)) = true := bne_t (by omega)
    have e1 : decide (xs = ys) = false := by
      rw [decide_eq_false_iff_not]
      intro e
      rw [e] at hn
      omega
    rw [e1]
    clear e1 hnm hn hm h g
    go_enter Tryd.func25, Tryd.ntmps25
    go_wp2_with fail
    go_ret
    exact ⟨rfl, Q.refl _⟩
theorem or2_any (B : Nat) (x y : Int) (w : World) (h0 : w.cell? ⟨B, 0, none⟩ = some (.int .i64 x)) (h1 : w.cell? ⟨B, 1, none⟩ = some (.int .i64 y)) :
    Calls Tryd.prog 32 #[.slice (some ⟨B, 0, none⟩) 2 2] w fun e w' => e = .returned (.int .i64 (Mf.or2 x y)) ∧ w = w' := by
  unfold Mf.or2
  by_cases hx : x = 0
  · subst hx
    rw [if_pos rfl]
    by_cases hy : y = 0
    · subst hy
      go_enter Tryd.func32, Tryd.ntmps32
      go_wp2_with fail
      refine wp_loop_rounds 3 ?_
      rw [rounds_succ]
      go_wp2_with fail
      rw [rounds_succ]
      go_wp2_with fail
      rw [rounds_succ]
      go_wp2_with fail
      go_ret
      exact ⟨rfl, rfl⟩
    · have y1 : (y != 0) = true := bne_t hy
      clear hy
      go_enter Tryd.func32, Tryd.ntmps32
      go_wp2_with fail
      refine wp_loop_rounds 2 ?_
      rw [rounds_succ]
      go_wp2_with fail
      rw [rounds_succ]
      go_wp2_with fail
      go_ret
      exact ⟨rfl, rfl⟩
  · rw [if_neg hx]
    have y1 : (x != 0) = true := bne_t hx
    clear hx
    go_enter Tryd.func32, Tryd.ntmps32
    go_wp2_with fail
    refine wp_loop_rounds 1 ?_
    rw [rounds_succ]
    go_wp2_with fail
    go_ret
    exact ⟨rfl, rfl⟩
theorem or3_any (B : Nat) (x y z : Int) (w : World) (h0 : w.cell? ⟨B, 0, none⟩ = some (.int .i64 x)) (h1 : w.cell? ⟨B, 1, none⟩ = some (.int .i64 y)) (h2 : w.cell? ⟨B, 2, none⟩ = some (.int .i64 z)) :
    Calls Tryd.prog 32 #[.slice (some ⟨B, 0, none⟩) 3 3] w fun e w' => e = .returned (.int .i64 (Mf.or3 x y z)) ∧ w = w' := by
  unfold Mf.or3
  by_cases hx : x = 0
  · subst hx
    rw [if_pos rfl]
    by_cases hy : y = 0
    · subst hy
      rw [if_pos rfl]
      by_cases hz : z = 0
      · subst hz
        go_enter Tryd.func32, Tryd.ntmps32
        go_wp2_with fail
        refine wp_loop_rounds 4 ?_
        rw [rounds_succ]
        go_wp2_with fail
        rw [rounds_succ]
        go_wp2_with fail
        rw [rounds_succ]
        go_wp2_with fail
        rw [rounds_succ]
        go_wp2_with fail
        go_ret
        exact ⟨rfl, rfl⟩
      · have y1 : (z != 0) = true := bne_t hz
        clear hz
        go_enter Tryd.func32, Tryd.ntmps32
        go_wp2_with fail
        refine wp_loop_rounds 3 ?_
        rw [rounds_succ]
        go_wp2_with fail
        rw [rounds_succ]
        go_wp2_with fail
        rw [rounds_succ]
        go_wp2_with fail
        go_ret
        exact ⟨rfl, rfl⟩
    · rw [if_neg hy]
      have y1 : (y != 0) = true := bne_t hy
      clear hy
      go_enter Tryd.func32, Tryd.ntmps32
      go_wp2_with fail
      refine wp_loop_rounds 2 ?_
      rw [rounds_succ]
      go_wp2_with fail
      rw [rounds_succ]
      go_wp2_with fail
      go_ret
      exact ⟨rfl, rfl⟩
  · rw [if_neg hx]
    have y1 : (x != 0) = true := bne_t hx
    clear hx
    go_enter Tryd.func32, Tryd.ntmps32
    go_wp2_with fail
    refine wp_loop_rounds 1 ?_
    rw [rounds_succ]
    go_wp2_with fail
    go_ret
    exact ⟨rfl, rfl⟩
theorem rlist_many (a : Option Addr) (xs : List Int) (n c : Nat) (hn : xs.length = n) (hb : n ≤ 1000000000) (w : World) (hm : 100000 < n) :
    Calls Tryd.prog 35 #[.slice a n c] w fun e w' => e = .returned (.int .i64 (Mf.listE xs)) ∧ Q w w' := by
  have he : Mf.listE xs = 12 := Mf.listE_many (by omega)
  rw [he]
  have hgi : goInt n = .int .i64 n := by simp [goInt]
  have y0 : decide (100000 < (n : Int)) = true := by simp; omega
  clear he hn
  go_enter Tryd.func35, Tryd.ntmps35
  go_wp2_with fail
  go_ret
  exact ⟨rfl, Q.refl _⟩
set_option maxHeartbeats 1000000 in
theorem rlist_few (a : Option Addr) (xs : List Int) (n c : Nat) (hn : xs.length = n) (hm : n ≤ 100000) (w : World) (h : Sl a xs w) :
    Calls Tryd.prog 35 #[.slice a n c] w fun e w' => e = .returned (.int .i64 (Mf.listE xs)) ∧ Q w w' := by
  have hgi : goInt n = .int .i64 n := by simp [goInt]
  have y0 : decide (100000 < (n : Int)) = false := by simp; omega
  have HN := Lib.hid hn
  have hp := h.parts hn
  clear hn h
  rcases hp with h0 | ⟨h0, b, off, rfl, hb, hc⟩
  · have HZ := Lib.hid h0
    have hle : n ≤ 0 := by omega
    clear h0
    go_enter Tryd.func35, Tryd.ntmps35
    go_wp2_with fail
    go_loop [3] (fun vi => ∃ k : Nat, k ≤ n ∧ vi = .int .i64 k) (fun vi => n - (intOf vi).toNat)
    case atStart => exact ⟨0, by omega, rfl⟩
    case round =>
      obtain ⟨k, hk, rfl⟩ := hrel
      have y1 : decide ((k : Int) < (n : Int)) = false := by simp; omega
      go_wp2_with fail
      go_loop [4] (fun vi => ∃ k : Nat, 1 ≤ k ∧ vi = .int .i64 k) (fun vi => n - (intOf vi).toNat)
      case atStart => exact ⟨1, by omega, rfl⟩
      case round =>
        obtain ⟨j, hj, rfl⟩ := hrel
        have y2 : decide ((j : Int) < (n : Int)) = false := by simp; omega
        go_wp2_with fail
        go_ret
        refine ⟨ret_int ?_, Q.refl _⟩
        have hl : xs.length = 0 := HN.out.trans HZ.out
        have : xs = [] := List.length_eq_zero_iff.1 hl
        rw [this]; rfl
  · have HC := Lib.hid hc; clear hc
    go_enter Tryd.func35, Tryd.ntmps35
    go_wp2_with fail
    go_loop [3] (fun vi => ∃ k : Nat, LR xs n k ∧ vi = .int .i64 k) (fun vi => n - (intOf vi).toNat)
    case atStart => exact ⟨0, ⟨by omega, fun i hi => absurd hi (by omega)⟩, rfl⟩
    case round =>
      obtain ⟨k, ⟨hk, hnb⟩, rfl⟩ := hrel
      have HB := Lib.hid hnb; clear hnb
      rcases Nat.lt_or_ge k n with hlt | hge
      · have y1 : decide ((k : Int) < (n : Int)) = true := by simp; omega
        have c1 := HC.out k hlt
        obtain ⟨t, ht⟩ : ∃ t, xs.getD k 0 = t := ⟨_, rfl⟩
        rw [ht] at c1
        have HT := Lib.hid ht; clear ht
        by_cases hb : 0 ≤ t ∧ t ≤ 253402300799
        · obtain ⟨hb1, hb2⟩ := hb
          have hb3 : Mf.NoBad xs (k + 1) := Mf.noBad_succ HB.out (by rw [HT.out]; exact ⟨hb1, hb2⟩)
          have HB3 := Lib.hid hb3; clear hb3
          go_wp2_with fail
          go_round
          case rel => exact ⟨k + 1, ⟨by omega, HB3.out⟩, by go_num⟩
          case measure => simp [intOf]; omega
        · have he : Mf.listE xs = 14 := Mf.listE_bad (by rw [HN.out]; exact hm) (Mf.not_noBad (k := k) (by rw [HN.out]; exact hlt) (by rw [HT.out]; exact hb))
          have HE := Lib.hid he; clear he
          by_cases hb1 : t < 0
          · clear hb
            go_wp2_with fail
            go_ret
            exact ⟨ret_int HE.out.symm, Q.refl _⟩
          · have hb2 : 253402300799 < t := by omega
            have hb3 : 0 ≤ t := by omega
            clear hb hb1
            go_wp2_with fail
            go_ret
            exact ⟨ret_int HE.out.symm, Q.refl _⟩
      · have hkn : k = n := by omega
        subst hkn
        have y1 : decide ((k : Int) < (k : Int)) = false := by simp
        go_wp2_with fail
        go_loopw [4] (fun vi wr => ∃ j : Nat, 1 ≤ j ∧ j ≤ k ∧ vi = .int .i64 j ∧ Mf.Inc xs j ∧ Q w wr) (fun vi _ => k - (intOf vi).toNat)
        case atStart => exact ⟨1, by omega, by omega, rfl, Mf.inc_one xs, Q.refl _⟩
        case round =>
          obtain ⟨j, hj1, hj2, rfl, hinc, hqr⟩ := hrel
          have HI := Lib.hid hinc; clear hinc
          rcases Nat.lt_or_ge j k with hjk | hjk
          · have y2 : decide ((j : Int) < (k : Int)) = true := by simp; omega
            have c1 := (hqr.cell (p := ⟨b, off + j, none⟩) hb).trans (HC.out j hjk)
            have c2 := (hqr.cell (p := ⟨b, off + (j - 1), none⟩) hb).trans (HC.out (j - 1) (by omega))
            obtain ⟨t, ht⟩ : ∃ t, xs.getD j 0 = t := ⟨_, rfl⟩
            rw [ht] at c1
            obtain ⟨s, hs⟩ : ∃ s, xs.getD (j - 1) 0 = s := ⟨_, rfl⟩
            rw [hs] at c2
            have y3 : ((j : Int) - 1).toNat = j - 1 := by omega
            have y4 : (0 : Int) < (j : Int) := by omega
            have y5 : (j : Int) - 1 < (k : Int) := by omega
            have y6 : (1 : Int) ≤ (j : Int) := by omega
            have y7 : (0 : Int) ≤ (j : Int) - 1 := by omega
            have y8 : (j : Int) < (k : Int) := by omega
            have r1 : IntKind.i64.wrap ((j : Int) - 1) = (j : Int) - 1 := by rw [IntKind.wrap_i64]; omega
            obtain ⟨i, hi⟩ : ∃ i, j = i + 1 := ⟨j - 1, by omega⟩
            have HJ := Lib.hid hi; have HS := Lib.hid hs; have HT := Lib.hid ht
            clear hi hs ht
            by_cases hle : t ≤ s
            · have he : Mf.listE xs = 8 := by
                have e := HJ.out
                subst e
                have q : xs.getD i 0 = s := by have := HS.out; rwa [Nat.add_sub_cancel] at this
                exact Mf.listE_down (k := i) (by rw [HN.out]; exact hm) (by rw [HN.out]; exact HB.out) (by rw [HN.out]; exact hjk) (by rw [HT.out, q]; omega)
              have HE := Lib.hid he; clear he
              have y9 : decide (t ≤ s) = true := by simp; omega
              go_wp2_with fail
              go_quiet (fail)
              go_wp2_with fail
              go_ret
              exact ⟨ret_int HE.out.symm, by repeat (first | exact Q.refl _ | assumption | refine Q.alloc ?_ _ | refine Q.drew ?_ | refine Q.drewN ?_ _ | refine Q.trans ?_ (by assumption))⟩
            · have y9 : decide (t ≤ s) = false := by simp; omega
              have hnx : Mf.Inc xs (j + 1) := by
                have e := HJ.out
                subst e
                have q : xs.getD i 0 = s := by have := HS.out; rwa [Nat.add_sub_cancel] at this
                exact Mf.inc_succ.2 ⟨HI.out, by rw [HT.out, q]; omega⟩
              have HX := Lib.hid hnx; clear hnx
              go_wp2_with fail
              go_quiet (fail)
              go_wp2_with fail
              go_roundw
              case rel => exact ⟨j + 1, by omega, by omega, by go_num, HX.out, by repeat (first | exact Q.refl _ | assumption | refine Q.alloc ?_ _ | refine Q.drew ?_ | refine Q.drewN ?_ _ | refine Q.trans ?_ (by assumption))⟩
              case measure => simp [intOf]; omega
          · have hjn : j = k := by omega
            have HJ := Lib.hid hjn; clear hjn
            have y2 : decide ((j : Int) < (k : Int)) = false := by simp; omega
            go_wp2_with fail
            go_ret
            refine ⟨ret_int ?_, hqr⟩
            have e := HJ.out
            subst e
            rw [Mf.listE_end (by rw [HN.out]; exact hm) (by rw [HN.out]; exact HB.out), HN.out, if_pos HI.out]
theorem rlist_any (a : Option Addr) (xs : List Int) (n c : Nat) (hn : xs.length = n) (hb : n ≤ 1000000000) (w : World) (h : Sl a xs w) :
    Calls Tryd.prog 35 #[.slice a n c] w fun e w' => e = .returned (.int .i64 (Mf.listE xs)) ∧ Q w w' := by
  by_cases hm : 100000 < n
  · exact rlist_many a xs n c hn hb w hm
  · exact rlist_few a xs n c hn (by omega) w h
end Go.Proofs.YtadfdkhgjjehnaaDoor
