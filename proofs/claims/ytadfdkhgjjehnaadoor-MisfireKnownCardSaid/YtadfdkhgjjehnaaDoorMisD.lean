/- The contract of the document's Keep. -/
import Derived.Test.YtadfdkhgjjehnaaDoorMisC
import Derived.RangeFuncBox
namespace Go.Proofs.YtadfdkhgjjehnaaDoor
open Go.RowKit
set_option linter.unusedVariables false
set_option linter.unusedSimpArgs false
theorem one_new (w : World) (u : Value) (T : TypeId) : ∀ j x, [u][j]? = some x → (w.alloc (.cells #[u] T)).cell? ((⟨w.heap.size, 0, none⟩ : Addr).add j) = some x := by
  intro j x h
  match j, h with
  | 0, h =>
    simp at h
    subst h
    simp [Go.WideShapes.add_plain]
/-- the loop's relation -/
def KR (w : World) (xs : List Int) (n d k : Nat) (va vb : Value) (wr : World) : Prop :=
  k ≤ n ∧ Q w wr ∧ ((k ≤ d ∧ va = .slice none 0 0 ∧ wr.ownsRow w.heap.size 2 1 vb k ((xs.take k).map (Value.int .i64))) ∨
    (d < k ∧ ∃ B, w.heap.size ≤ B ∧ B ≤ wr.heap.size ∧ wr.ownsRow B 2 1 va (k - d) (((xs.drop d).take (k - d)).map (Value.int .i64)) ∧ wr.ownsRow w.heap.size 2 1 vb d ((xs.take d).map (Value.int .i64)) ∧ ∀ g, vb.ownBlock = some g → g < B))
theorem take_succ_map (l : List Int) (k : Nat) (h : k < l.length) : ((l.take k).map (Value.int .i64)) ++ [Value.int .i64 (l.getD k 0)] = (l.take (k + 1)).map (Value.int .i64) := by
  rw [List.take_succ_eq_append_getElem h, List.map_append, getD_nat l k h]; rfl
theorem KR.stepB {w wr w1 : World} {xs : List Int} {n d k : Nat} {va vb v' : Value} {o : Obj} (h : KR w xs n d k va vb wr) (hn : xs.length = n) (hkd : k < d) (hd : d ≤ n)
    (hown : w1.ownsRow w.heap.size 2 1 v' (k + 1) ((xs.take k).map (Value.int .i64) ++ [Value.int .i64 (xs.getD k 0)])) (hgrow : (wr.alloc o).grownBy w1 vb.ownBlock) : KR w xs n d (k + 1) va v' w1 := by
  obtain ⟨h1, hq, h2⟩ := h
  rcases h2 with ⟨h3, rfl, h4⟩ | ⟨h3, _⟩
  · refine ⟨by omega, (hq.alloc o).grown hgrow (fun g hg => (h4.lt g hg).1), Or.inl ⟨by omega, rfl, ?_⟩⟩
    rw [take_succ_map xs k (by omega)] at hown
    exact hown
  · omega
theorem KR.rowB {w wr : World} {xs : List Int} {n d k : Nat} {va vb : Value} (h : KR w xs n d k va vb wr) (hkd : k < d) : wr.ownsRow w.heap.size 2 1 vb k ((xs.take k).map (Value.int .i64)) := by
  rcases h.2.2 with ⟨_, _, h⟩ | ⟨h, _⟩
  · exact h
  · omega
/-- the row of what is kept, before one more comes -/
theorem KR.rowA {w wr : World} {xs : List Int} {n d k : Nat} {va vb : Value} (h : KR w xs n d k va vb wr) (hkd : d ≤ k) : ∃ B, w.heap.size ≤ B ∧ B ≤ wr.heap.size ∧ wr.ownsRow B 2 1 va (k - d) (((xs.drop d).take (k - d)).map (Value.int .i64)) ∧ wr.ownsRow w.heap.size 2 1 vb d ((xs.take d).map (Value.int .i64)) ∧ ∀ g, vb.ownBlock = some g → g < B := by
  obtain ⟨h1, hq, h2⟩ := h
  rcases h2 with ⟨h3, rfl, h4⟩ | ⟨h3, B, hB, hB2, ha, hb, hg⟩
  · obtain rfl : d = k := by omega
    refine ⟨wr.heap.size, hq.size, Nat.le_refl _, ?_, h4, fun g hg => (h4.lt g hg).2⟩
    rw [Nat.sub_self]; exact World.ownsRow_nil _ _ _ _
  · exact ⟨B, hB, hB2, ha, hb, hg⟩
theorem KR.stepA {w wr w1 : World} {xs : List Int} {n d k B : Nat} {va vb v' : Value} {o : Obj} (h1 : k < n) (hq : Q w wr) (hn : xs.length = n) (hkd : d ≤ k) (hB : w.heap.size ≤ B) (hB2 : B ≤ wr.heap.size)
    (ha : wr.ownsRow B 2 1 va (k - d) (((xs.drop d).take (k - d)).map (Value.int .i64))) (hb : wr.ownsRow w.heap.size 2 1 vb d ((xs.take d).map (Value.int .i64))) (hg : ∀ g, vb.ownBlock = some g → g < B)
    (hown : w1.ownsRow B 2 1 v' (k - d + 1) (((xs.drop d).take (k - d)).map (Value.int .i64) ++ [Value.int .i64 (xs.getD k 0)])) (hgrow : (wr.alloc o).grownBy w1 va.ownBlock) : KR w xs n d (k + 1) v' vb w1 := by
  refine ⟨by omega, (hq.alloc o).grown hgrow (fun g hg2 => Nat.le_trans hB (ha.lt g hg2).1), Or.inr ⟨by omega, B, hB, ?_, ?_, ?_, hg⟩⟩
  · have := hgrow.size
    rw [World.size_alloc] at this
    omega
  · have e : xs.getD k 0 = (xs.drop d).getD (k - d) 0 := by
      simp only [List.getD_eq_getElem?_getD, List.getElem?_drop]
      rw [show d + (k - d) = k by omega]
    rw [e, take_succ_map _ _ (by rw [List.length_drop]; omega)] at hown
    rw [show k + 1 - d = k - d + 1 by omega]
    exact hown
  · refine (hb.alloc o).kept hgrow ?_
    cases hvb : vb.ownBlock with
    | none => exact Or.inl rfl
    | some g =>
      right
      intro e
      have a1 := hg g hvb
      have a2 := (ha.lt g e.symm).1
      omega
/-- the end -/
theorem KR.done {w wr : World} {xs : List Int} {n d : Nat} {va vb : Value} (h : KR w xs n d n va vb wr) (hn : xs.length = n) (hd : d ≤ n) : Two w.heap.size va vb (xs.drop d) (xs.take d) wr := by
  obtain ⟨B, hB, hB2, ha, hb, hg⟩ := h.rowA hd
  rw [List.take_of_length_le (by rw [List.length_drop]; omega)] at ha
  refine ⟨?_, ?_, ?_⟩
  · rw [List.length_drop, hn]; exact Go.Joins.ownsRow_le ha hB
  · rw [List.length_take, hn, Nat.min_eq_left hd]; exact hb
  · cases hva : va.ownBlock with
    | none => exact Or.inl rfl
    | some g =>
      right
      intro e
      have a1 := hg g e.symm
      have a2 := (ha.lt g hva).1
      omega
set_option maxRecDepth 20000 in
set_option maxHeartbeats 2000000 in
theorem rkeep_ok (p k : Int) (a : Option Addr) (xs : List Int) (n c : Nat) (hn : xs.length = n) (hb : n ≤ 1000000000) (w : World) (h : Sl a xs w) (h0 : keepE p k xs = 0) :
    Calls Tryd.prog 16 #[.int .i64 p, .int .i64 k, .slice a n c] w (KeepPost p k xs w) := by
  obtain ⟨e1, e2⟩ := keepE_zero h0
  obtain ⟨d1, d2⟩ := drp_le (n := n) e1
  have hgi : goInt n = .int .i64 n := by simp [goInt]
  have kc := fun w2 => rcheck_any p k w2
  rw [e1] at kc
  have kl := fun w2 (g : Sl a xs w2) => rlist_any a xs n c hn hb w2 g
  rw [e2] at kl
  have kn := fun w2 => rkept_any p k n w2
  have kb := kept_bd (n := (n : Int)) e1 (by omega)
  have HK : KeepPost p k xs w = fun e w' => ∃ v1 v2, e = .returned (.tuple #[v1, v2, .int .i64 0]) ∧ Two w.heap.size v1 v2 (xs.drop (drp p k n)) (xs.take (drp p k n)) w' ∧ Q w w' := by
    unfold KeepPost keepK keepD
    rw [if_pos h0, if_pos h0, h0, hn]
  rw [HK]
  obtain ⟨i0, hi, hz0, hz1, hz2⟩ := info_parts info2
  generalize drp p k n = d at *
  generalize Mf.kept p k n = m at *
  have hnd : (n : Int) - m = d := by omega
  have HN := Lib.hid hn
  have hp := h.parts hn
  clear HK h0 e1 e2 d2 hn
  go_enter Tryd.func16, Tryd.ntmps16
  go_wp2_with (first
    | (go_at_call 20; refine (kc _).mono ?_; rintro e w1 ⟨rfl, rfl⟩)
    | (go_at_call 35; refine (kl _ h).mono ?_; rintro e w2 ⟨rfl, hq2⟩)
    | (go_at_call 36; refine (kn _).mono ?_; rintro e w3 ⟨rfl, rfl⟩))
  go_loopw [10, 11, 13] (fun va vb vi wr => ∃ i : Nat, vi = .int .i64 i ∧ KR w xs n d i va vb wr) (fun _ _ vi _ => n - (intOf vi).toNat)
  case atStart => exact ⟨0, rfl, by omega, hq2, Or.inl ⟨by omega, rfl, World.ownsRow_nil _ _ _ _⟩⟩
  case round =>
    obtain ⟨i, rfl, hr⟩ := hrel
    have hi1 := hr.1
    have hq := hr.2.1
    rcases Nat.lt_or_ge i n with hlt | hge
    · rcases hp with hp | ⟨hp, b, off, rfl, hl, hc⟩
      · omega
      have c1 := (hq.cell (p := ⟨b, off + i, none⟩) hl).trans (hc i hlt)
      have y1 : decide ((i : Int) < (n : Int)) = true := by simp; omega
      have y3 : (0 : Int) ≤ (i : Int) ∧ (i : Int) < (n : Int) := by omega
      have HC := Lib.hid hc
      clear hc kc kl kn
      rcases Nat.lt_or_ge i d with hd | hd
      · have y2 : decide ((i : Int) < (d : Int)) = true := by simp; omega
        have ho := hr.rowB hd
        obtain ⟨x, hx⟩ : ∃ x, xs.getD i 0 = x := ⟨_, rfl⟩
        rw [hx] at c1
        have HX := Lib.hid hx; clear hx
        go_wp2_with (at_builtin; refine wpList_append_own _ rfl (.tmp 41) (.tmp 46) 22 rfl w.heap.size 2 i0 (.int .i64 0) 1 8 Tryd.underlying22 hi hz0 hz1 hz2 rfl (by decide) _ _ _ rfl (ho.alloc _) ⟨wr.heap.size, 0, none⟩ 1 1 [.int .i64 x] rfl rfl (one_new _ _ _) (by simp [Value.oneCell']) (by unfold maxLen; omega) (by omega) (by have := hq.size; simp; omega) ?_; intro v' w1 hown hgrow hiff; obtain ⟨g', cap', rfl⟩ := ownsRow_succ hown; rw [← HX.out] at hown; have hnx := hr.stepB HN.out hd d1 hown hgrow; clear hown hgrow hiff ho)
        go_roundw
        case rel => exact ⟨i + 1, by go_num, hnx⟩
        case measure => simp [intOf]; omega
      · have y2 : decide ((i : Int) < (d : Int)) = false := by simp; omega
        obtain ⟨B, hB, hB2, ha, hbb, hg⟩ := hr.rowA hd
        obtain ⟨x, hx⟩ : ∃ x, xs.getD i 0 = x := ⟨_, rfl⟩
        rw [hx] at c1
        have HX := Lib.hid hx; clear hx
        have HG := Lib.hid hg; clear hg
        go_wp2_with (at_builtin; refine wpList_append_own _ rfl (.tmp 48) (.tmp 53) 22 rfl B 2 i0 (.int .i64 0) 1 8 Tryd.underlying22 hi hz0 hz1 hz2 rfl (by decide) _ _ _ rfl (ha.alloc _) ⟨wr.heap.size, 0, none⟩ 1 1 [.int .i64 x] rfl rfl (one_new _ _ _) (by simp [Value.oneCell']) (by unfold maxLen; omega) (by omega) (by simp; omega) ?_; intro v' w1 hown hgrow hiff; obtain ⟨g', cap', rfl⟩ := ownsRow_succ hown; rw [← HX.out] at hown; have hnx := KR.stepA hlt hq HN.out hd hB hB2 ha hbb HG.out hown hgrow; clear hown hgrow hiff ha hbb)
        go_roundw
        case rel => exact ⟨i + 1, by go_num, hnx⟩
        case measure => simp [intOf]; omega
    · have hin : i = n := by omega
      subst hin
      have y1 : decide ((i : Int) < (i : Int)) = false := by simp
      have hfin := hr.done HN.out d1
      clear kc kl kn hp
      go_wp2_with fail
      exact bodyPost_ret (v := .tuple #[u10, u11, .int .i64 0]) (by simp [results, Tryd.results16, go_sem]) rfl ⟨_, _, rfl, hfin, hq⟩
theorem rkeep_err (p k : Int) (a : Option Addr) (xs : List Int) (n c : Nat) (hn : xs.length = n) (hb : n ≤ 1000000000) (w : World) (h : Sl a xs w) (h0 : ¬ keepE p k xs = 0) :
    Calls Tryd.prog 16 #[.int .i64 p, .int .i64 k, .slice a n c] w (KeepPost p k xs w) := by
  have kc := fun w2 => rcheck_any p k w2
  have kl := fun w2 (g : Sl a xs w2) => rlist_any a xs n c hn hb w2 g
  have HK : KeepPost p k xs w = fun e w' => ∃ v1 v2, e = .returned (.tuple #[v1, v2, .int .i64 (keepE p k xs)]) ∧ Two w.heap.size v1 v2 [] [] w' ∧ Q w w' := by
    unfold KeepPost keepK keepD
    rw [if_neg h0, if_neg h0]
  rw [HK]
  rcases chk_vals p k with hx | hx
  · have he : keepE p k xs = Mf.listE xs := by unfold keepE Mf.or2; rw [if_pos hx]
    rw [he] at h0 ⊢
    rw [hx] at kc
    obtain ⟨y, hy⟩ : ∃ x, Mf.listE xs = x := ⟨_, rfl⟩
    rw [hy] at kl h0 ⊢
    have y1 : (y != 0) = true := bne_t h0
    clear HK h0 hn hx hy he
    go_enter Tryd.func16, Tryd.ntmps16
    go_wp2_with (first
      | (go_at_call 20; refine (kc _).mono ?_; rintro e w1 ⟨rfl, rfl⟩)
      | (go_at_call 35; refine (kl _ h).mono ?_; rintro e w2 ⟨rfl, hq2⟩))
    exact bodyPost_ret (v := .tuple #[.slice none 0 0, .slice none 0 0, .int .i64 y]) (by simp [results, Tryd.results16, go_sem]) rfl ⟨_, _, rfl, Two.nil _ _, hq2⟩
  · have he : keepE p k xs = 2 := by unfold keepE Mf.or2; rw [if_neg (by omega)]; exact hx
    rw [he]
    rw [hx] at kc
    clear HK h0 hn hx he
    go_enter Tryd.func16, Tryd.ntmps16
    go_wp2_with (first
      | (go_at_call 20; refine (kc _).mono ?_; rintro e w1 ⟨rfl, rfl⟩))
    exact bodyPost_ret (v := .tuple #[.slice none 0 0, .slice none 0 0, .int .i64 2]) (by simp [results, Tryd.results16, go_sem]) rfl ⟨_, _, rfl, Two.nil _ _, Q.refl _⟩
theorem rkeep_any (p k : Int) (a : Option Addr) (xs : List Int) (n c : Nat) (hn : xs.length = n) (hb : n ≤ 1000000000) (w : World) (h : Sl a xs w) :
    Calls Tryd.prog 16 #[.int .i64 p, .int .i64 k, .slice a n c] w (KeepPost p k xs w) := by
  by_cases h0 : keepE p k xs = 0
  · exact rkeep_ok p k a xs n c hn hb w h h0
  · exact rkeep_err p k a xs n c hn hb w h h0
/-- a slice of the call's own, as a slice of int64 -/
theorem own_sl {w : World} {base : Nat} {v : Value} {l : List Int} (h : w.ownsRow base 2 1 v l.length (l.map (Value.int .i64))) : ∃ a c, v = .slice a l.length c ∧ Sl a l w ∧ l.length ≤ c ∧ (a = none ∨ ∃ g, a = some ⟨g, 0, none⟩ ∧ base ≤ g ∧ g < w.heap.size) := by
  have hl := h.lt
  rcases h.2 with ⟨rfl, h0⟩ | ⟨g, cap, cur, rfl, hb, hg, hc, hm, hs, ht⟩
  · exact ⟨none, 0, by rw [h0], Or.inl h0, by omega, Or.inl rfl⟩
  · refine ⟨some ⟨g, 0, none⟩, cap, rfl, Or.inr ⟨g, 0, rfl, (hl g rfl).2, fun j hj => ?_⟩, hc, Or.inr ⟨g, rfl, hb, (hl g rfl).2⟩⟩
    have := h.cellAt j (by omega)
    rw [Nat.zero_add, this]
    simp [List.getD, hj]
end Go.Proofs.YtadfdkhgjjehnaaDoor
