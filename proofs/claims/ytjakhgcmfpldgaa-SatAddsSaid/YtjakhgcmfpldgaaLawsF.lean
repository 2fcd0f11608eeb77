/- The walk of the law SatAdds: it returns true. -/
import Derived.Test.YtjakhgcmfpldgaaLawsE
import Derived.Maps.AppendAt
import Derived.StillTailTactics
namespace Go.Proofs.Ytjakhgcmfpldgaa
open Go.RowKit
set_option linter.unusedVariables false
/-- a number without its sign bit -/
def low (x : Int) : Int := x % 9223372036854775808
def sumC (l : List Int) : Int := l.foldl (fun n x => n + Sat.clip x) 0
theorem sum_low_acc (l : List Int) (h : ∀ x ∈ l, 0 ≤ x) : ∀ n m : Int, 0 ≤ m → n = Sat.clip m → l.foldl Sat.add n = Sat.clip (l.foldl (fun n x => n + Sat.clip x) m) := by
  induction l with
  | nil => intro n m _ e; exact e
  | cons x l ih =>
    intro n m hm e
    have hx : 0 ≤ Sat.clip x := by have := Sat.clip_mono (h x (by simp)); rwa [show Sat.clip 0 = 0 from rfl] at this
    refine ih (fun y hy => h y (by simp [hy])) _ _ (show 0 ≤ m + Sat.clip x by omega) ?_
    show Sat.add n x = Sat.clip (m + Sat.clip x)
    subst e
    unfold Sat.add
    rw [Sat.clip_clip]
    have b := Sat.clip_num x
    rcases Sat.clip_three m with ⟨k, e⟩ | ⟨k, e⟩ | ⟨k, k', e⟩
    · rw [e, Sat.clip_ge (by rw [Sat.never_def]; omega), Sat.clip_ge (by rw [Sat.never_def]; omega)]
    · omega
    · rw [e]
theorem sum_nonneg (l : List Int) (h : ∀ x ∈ l, 0 ≤ x) : Sat.sum l = Sat.clip (sumC l) := sum_low_acc l h 0 0 (by omega) rfl
theorem sumC_acc (l : List Int) : ∀ n, l.foldl (fun n x => n + Sat.clip x) n = n + sumC l := by
  unfold sumC
  induction l with
  | nil => intro n; simp
  | cons x l ih => intro n; simp only [List.foldl_cons]; rw [ih, ih (0 + _)]; omega
theorem sumC_append (l r : List Int) : sumC (l ++ r) = sumC l + sumC r := by
  show (l ++ r).foldl _ 0 = _
  rw [List.foldl_append, sumC_acc]; rfl
theorem sumC_reverse (l : List Int) : sumC l.reverse = sumC l := by
  induction l with
  | nil => rfl
  | cons x l ih =>
    rw [List.reverse_cons, sumC_append, ih]
    show _ = (x :: l).foldl _ 0
    rw [List.foldl_cons, sumC_acc]
    show sumC l + ([x].foldl _ 0) = _
    simp; omega
theorem low_nonneg (x : Int) : 0 ≤ low x := by unfold low; omega
theorem sum_low (l : List Int) : Sat.sum (l.map low) = Sat.sum (l.reverse.map low) := by
  rw [sum_nonneg _ (by intro x hx; obtain ⟨y, _, rfl⟩ := List.mem_map.1 hx; exact low_nonneg y), sum_nonneg _ (by intro x hx; obtain ⟨y, _, rfl⟩ := List.mem_map.1 hx; exact low_nonneg y),
    List.map_reverse, sumC_reverse]
def upTo (l : List Int) (k : Nat) : List Int := (l.take k).map low
def downTo (l : List Int) (k : Nat) : List Int := (l.reverse.take k).map low
theorem upTo_succ {l : List Int} {k : Nat} (h : k < l.length) : upTo l (k + 1) = upTo l k ++ [low l[k]] := by
  unfold upTo; rw [List.take_succ_eq_append_getElem h, List.map_append]; rfl
theorem downTo_succ {l : List Int} {k : Nat} (h : k < l.length) : downTo l (k + 1) = downTo l k ++ [low (l[l.length - 1 - k]'(by omega))] := by
  unfold downTo; rw [List.take_succ_eq_append_getElem (by simpa using h), List.map_append, List.getElem_reverse]; rfl
theorem upTo_len {l : List Int} {k : Nat} (h : k ≤ l.length) : (upTo l k).length = k := by unfold upTo; simp; omega
theorem downTo_len {l : List Int} {k : Nat} (h : k ≤ l.length) : (downTo l k).length = k := by unfold downTo; simp; omega
theorem upTo_all (l : List Int) : upTo l l.length = l.map low := by unfold upTo; rw [List.take_length]
theorem downTo_all (l : List Int) : downTo l l.length = l.reverse.map low := by unfold downTo; rw [List.take_of_length_le (by simp)]
theorem sum_last {l : List Int} (h : 0 < l.length) : Sat.add (Sat.sum (l.take (l.length - 1))) (l[l.length - 1]'(by omega)) = Sat.sum l := by
  have := sum_succ (zs := l) (k := l.length - 1) (by omega)
  rwa [show l.length - 1 + 1 = l.length by omega, List.take_length] at this
/-- what the loop of SatAdds keeps -/
def AddsRel (l : List Int) (w : World) (vu vd vi : Value) (wr : World) : Prop :=
  ∃ k : Nat, k ≤ l.length ∧ vi = .int .i64 k ∧ wr.ownsRow w.heap.size 2 1 vu k ((upTo l k).map (Value.int .i64)) ∧ wr.ownsRow w.heap.size 2 1 vd k ((downTo l k).map (Value.int .i64)) ∧
    (∀ g, vu.ownBlock = some g → vd.ownBlock ≠ some g) ∧ Q w wr
theorem adds_start (l : List Int) (w : World) : AddsRel l w (.slice none 0 0) (.slice none 0 0) (.int .i64 0) w :=
  ⟨0, by omega, rfl, World.ownsRow_nil _ _ _ _, World.ownsRow_nil _ _ _ _, by intro g h; simp [Value.ownBlock] at h, Q.refl _⟩
/-- an append to one owned row leaves the other -/
theorem two_rows {w wr w1 : World} {v v' u : Value} {n : Nat} {ys : List Value} {o : Obj} (hq : Q w wr) (hw : w.heap.size ≤ wr.heap.size)
    (hb : ∀ k, v.ownBlock = some k → w.heap.size ≤ k)
    (hsep : ∀ g, v.ownBlock = some g → u.ownBlock ≠ some g) (hu : wr.ownsRow w.heap.size 2 1 u n ys)
    (hg : (wr.alloc o).grownBy w1 v.ownBlock) (hloc : v'.ownBlock = v.ownBlock ∨ v'.ownBlock = some (wr.alloc o).heap.size) :
    w1.ownsRow w.heap.size 2 1 u n ys ∧ (∀ g, v'.ownBlock = some g → u.ownBlock ≠ some g) ∧ Q w w1 := by
  refine ⟨(hu.alloc o).kept hg ?_, ?_, (hq.alloc o).grown hg hb⟩
  · cases hv : v.ownBlock with
    | none => by_cases h : u.ownBlock = none
              · exact .inl h
              · exact .inr h
    | some g => exact .inr (hsep g hv)
  · intro g h h'
    rcases hloc with e | e
    · exact hsep g (e ▸ h) h'
    · have := hu.lt g h'
      rw [e] at h
      simp only [Option.some.injEq] at h
      have hs : (wr.alloc o).heap.size = wr.heap.size + 1 := by simp
      omega
theorem own_ge {w wr : World} {v : Value} {n : Nat} {ys : List Value} (h : wr.ownsRow w.heap.size 2 1 v n ys) : ∀ k, v.ownBlock = some k → w.heap.size ≤ k := fun k hk => (h.lt k hk).1
theorem lit_cell (w : World) (x : Int) : ∀ j u, [Value.int .i64 x][j]? = some u → (w.alloc (.cells #[.int .i64 x] 2)).cell? ((⟨w.heap.size, 0, none⟩ : Addr).add j) = some u := by
  intro j u h
  match j, h with
  | 0, h => simp at h; subst h; simp [Addr.add]
theorem map_snoc (l : List Int) (x : Int) : l.map (Value.int .i64) ++ [Value.int .i64 x] = (l ++ [x]).map (Value.int .i64) := by simp
theorem sum_len (b off n cap : Nat) (zs : List Int) (w : World) (he : zs.length = n) (hn : zs.length ≤ 9223372036854775807)
    (hc : ∀ j, j < zs.length → w.cell? ⟨b, off + j, none⟩ = some (.int .i64 (zs.getD j 0))) :
    Calls Try.prog 25 #[.slice (some ⟨b, off, none⟩) n cap] w fun e w' => e = .returned (.int .i64 (Sat.sum zs)) ∧ w = w' := by
  subst he; exact sum_any b off cap zs w hn hc
theorem take_cells {w : World} {b off m : Nat} {l : List Int} (hc : ∀ j, j < l.length → w.cell? ⟨b, off + j, none⟩ = some (.int .i64 (l.getD j 0))) :
    ∀ j, j < (l.take m).length → w.cell? ⟨b, off + j, none⟩ = some (.int .i64 ((l.take m).getD j 0)) := by
  intro j hj
  rw [List.length_take] at hj
  rw [hc j (by omega)]
  congr 2
  simp only [List.getD_eq_getElem?_getD, List.getElem?_take]
  rw [if_pos (by omega)]
theorem slice_init (b off n cap : Nat) (h0 : 0 < n) (hn : n ≤ cap) (w : World) : (Instr.slice 31 (.slice (some ⟨b, off, none⟩) n cap) none (some (.int .i64 ((n : Int) - 1))) none).run Try.prog w = .ok (.slice (some ⟨b, off, none⟩) (n - 1) cap) w := by
  rw [run_slice_h w 31 (some ⟨b, off, none⟩) n cap Try.underlying31 .i64 _ (by omega) (by omega)]
  have e : ((n : Int) - 1).toNat = n - 1 := by omega
  have hc : ¬ cap = 0 := by omega
  simp [go_sem, e, hc, Addr.add]
theorem still_of {P : Program} {f : Nat} {xs : Array Value} {w : World} {v : Value} (h : Calls P f xs w fun e w' => e = .returned v ∧ w = w') : Calls P f xs w fun e w' => e = .returned v ∧ w' = w := h.mono fun _ _ k => ⟨k.1, k.2.symm⟩
theorem satAdds_loop (b off cap : Nat) (l : List Int) (hl : 0 < l.length) (hm : l.length ≤ 300) (hcap : l.length ≤ cap) (w : World) (hb : b < w.heap.size)
    (hc : ∀ j, j < l.length → w.cell? ⟨b, off + j, none⟩ = some (.int .i64 (l.getD j 0))) :
    Calls Try.prog 9 #[.slice (some ⟨b, off, none⟩) l.length cap] w fun e w' => e = .returned (.bool true) ∧ Q w w' := by
  obtain ⟨i0, hi, hz0, hz1, hz2⟩ := info_parts info2
  have Hc := Lib.hid hc; clear hc
  go_enter Try.func9, Try.ntmps9
  go_wp2_with fail
  go_loopw [3, 4, 13] (fun vu vd vi wr => AddsRel l w vu vd vi wr) (fun _ _ vi _ => (l.length - intOf vi).toNat)
  case atStart => exact adds_start l w
  case round =>
    obtain ⟨k, hk, rfl, hU, hD, hsep, hq⟩ := hrel
    by_cases hlt : k < l.length
    · obtain ⟨x, hx⟩ : ∃ x, x = l[k] := ⟨_, rfl⟩
      obtain ⟨y, hy⟩ : ∃ y, y = l[l.length - 1 - k]'(by omega) := ⟨_, rfl⟩
      have c1 : wr.cell? ⟨b, off + k, none⟩ = some (.int .i64 x) := by
        have := (hq.cell (p := ⟨b, off + k, none⟩) hb).trans (Hc.out k hlt)
        rwa [getD_of hlt, ← hx] at this
      have c2 : wr.cell? ⟨b, off + (l.length - 1 - k), none⟩ = some (.int .i64 y) := by
        have := (hq.cell (p := ⟨b, off + (l.length - 1 - k), none⟩) hb).trans (Hc.out (l.length - 1 - k) (by omega))
        rwa [getD_of (by omega), ← hy] at this
      have Hx := Lib.hid hx; clear hx
      have Hy := Lib.hid hy; clear hy
      have m1 : bits .and .i64 x 9223372036854775807 = low x := i64_and_max x
      have m2 : bits .and .i64 y 9223372036854775807 = low y := i64_and_max y
      have hbr : b < wr.heap.size := by have := hq.size; omega
      have hsz := hq.size
      go_wp2_with (first
        | (at_builtin; refine wpList_append_own_at _ rfl (.tmp 16) (.tmp 22) 31 rfl w.heap.size 2 i0 (.int .i64 0) 1 8 Try.underlying31 hi hz0 hz1 hz2 rfl (by decide) _ k _ rfl (hU.alloc _) ⟨wr.heap.size, 0, none⟩ 1 1 [.int .i64 (low x)] rfl rfl (lit_cell wr (low x)) (by simp [Value.oneCell']) (by unfold maxLen; omega) (by omega) (by simp; omega) ?_; intro vu' w1 hU1 hg1 _ hloc1; obtain ⟨hD1, hsep1, hq1⟩ := two_rows hq hsz (own_ge hU) hsep hD hg1 hloc1; have hsz1 := hq1.size; have c3 : w1.cell? ⟨b, off + (l.length - 1 - k), none⟩ = some (.int .i64 y) := ((Below.grown (Below.refl w.heap.size (wr.alloc _)) hg1 (by simp; omega) (own_ge hU)).cell (p := ⟨b, off + (l.length - 1 - k), none⟩) hb).trans ((Q.cell ((Q.refl wr).alloc _) (p := ⟨b, off + (l.length - 1 - k), none⟩) hbr).trans c2); clear hg1 hloc1 hU hD hsep)
        | (at_builtin; refine wpList_append_own_at _ rfl (.tmp 24) (.tmp 34) 31 rfl w.heap.size 2 i0 (.int .i64 0) 1 8 Try.underlying31 hi hz0 hz1 hz2 rfl (by decide) _ k _ rfl (hD1.alloc _) ⟨w1.heap.size, 0, none⟩ 1 1 [.int .i64 (low y)] rfl rfl (lit_cell w1 (low y)) (by simp [Value.oneCell']) (by unfold maxLen; omega) (by omega) (by simp; omega) ?_; intro vd' w2 hD2 hg2 _ hloc2; obtain ⟨hU2, hsep2, hq2⟩ := two_rows hq1 hsz1 (own_ge hD1) (fun g h h' => hsep1 g h' h) hU1 hg2 hloc2; clear hg2 hloc2 hU1 hD1 hsep1))
      go_roundw
      case rel =>
        rw [map_snoc] at hU2 hD2
        rw [Hx.out, ← upTo_succ hlt] at hU2
        rw [Hy.out, ← downTo_succ hlt] at hD2
        exact ⟨k + 1, by omega, by go_num, hU2, hD2, fun g h h' => hsep2 g h' h, hq2⟩
      case measure => simp [intOf]; omega
    · obtain rfl : k = l.length := by omega
      rw [upTo_all] at hU
      rw [downTo_all] at hD
      obtain ⟨g1, p1, hv1, hg1, _, hc1⟩ := owned_ints (l := l.map low) (by simpa using hU) (by simpa using hl)
      obtain ⟨g2, p2, hv2, hg2, _, hc2⟩ := owned_ints (l := l.reverse.map low) (by simpa using hD) (by simpa using hl)
      have hcr : ∀ j, j < l.length → wr.cell? ⟨b, off + j, none⟩ = some (.int .i64 (l.getD j 0)) := fun j hj => (hq.cell (p := ⟨b, off + j, none⟩) hb).trans (Hc.out j hj)
      have c2 := hcr (l.length - 1) (by omega)
      rw [getD_of (by omega)] at c2
      obtain ⟨y, hy⟩ : ∃ y, y = l[l.length - 1]'(by omega) := ⟨_, rfl⟩
      rw [← hy] at c2
      have hlast := sum_last hl
      rw [← hy] at hlast
      have hsum := sum_low l
      rw [List.length_map] at hv1
      rw [List.length_map, List.length_reverse] at hv2
      have H1 := Lib.hid hc1; clear hc1
      have H2 := Lib.hid hc2; clear hc2
      have hcd : ∀ j, j < l.length → wr.drew.cell? ⟨b, off + j, none⟩ = some (.int .i64 (l.getD j 0)) := hcr
      have H3 := Lib.hid hcd; clear hcr hcd
      have Hy := Lib.hid hy; clear hy
      clear hU hD hsep
      rw [hv1, hv2]; clear hv1 hv2
      go_wp2_with (first
        | (go_at_call 25; (with_reducible refine (sum_len g1 0 _ _ (l.map low) _ (by simp) (by simp; omega) H1.out).mono ?_); rintro e w2 ⟨rfl, rfl⟩)
        | (go_at_call 25; (with_reducible refine (sum_len g2 0 _ _ (l.reverse.map low) _ (by simp) (by simp; omega) H2.out).mono ?_); rintro e w2 ⟨rfl, rfl⟩))
      have i1 : 0 ≤ (l.length : Int) - 1 := by omega
      have i11 : 1 ≤ (l.length : Int) := by omega
      have i2 : (l.length : Int) - 1 < (l.length : Int) := by omega
      have i3 : (l.length : Int) - 1 ≤ (cap : Int) := by omega
      have i0' : IntKind.i64.wrap ((l.length : Int) - 1) = (l.length : Int) - 1 := IntWalk.i64_in _ (by omega)
      have i5 := slice_init b off l.length cap hl hcap
      have i8 : ¬ cap = 0 := by omega
      have i9 : (cap == 0) = false := by simp; omega
      have i10 : ¬ (cap : Int) = 0 := by omega
      have i6 : ¬ ((l.length : Int) - 1 < 0) := by omega
      have i7 : l.length - 1 ≤ cap := by omega
      have i4 : ((l.length : Int) - 1).toNat = l.length - 1 := by omega
      go_still_tail 15, (by kernel_rfl)
      still_call (still_of (sum_len b off l.length _ l _ rfl (by omega) H3.out))
      repeat still_step
      still_call (still_of (sum_len b off (l.length - 1) _ (l.take (l.length - 1)) _ (by simp) (by simp; omega) (take_cells H3.out)))
      repeat still_step
      still_call (still_of (add_any _ _ _))
      repeat still_step
      change wpList _ _ _ _ _ wr.drew
      generalize hwd : wr.drew = wd
      have hqd : Q w wd := by rw [← hwd]; exact hq.drew
      clear hwd H1 H2 H3
      go_wp2_with (go_at_call 22; refine (works_any _).mono ?_; rintro e w5 ⟨rfl, hq5⟩)
      go_ret
      exact ⟨rfl, hqd.trans hq5⟩
theorem satAdds_big (a : Option Addr) (len cap : Nat) (hl : 300 < len) (hm : len ≤ maxLen) (w : World) :
    Calls Try.prog 9 #[.slice a len cap] w fun e w' => e = .returned (.bool true) ∧ Q w w' := by
  unfold maxLen at hm
  go_enter Try.func9, Try.ntmps9
  go_wp2_with (go_at_call 22; refine (works_any _).mono ?_; rintro e w5 ⟨rfl, hq5⟩)
  go_ret
  exact ⟨rfl, hq5⟩
theorem satAdds_zero (a : Option Addr) (cap : Nat) (w : World) :
    Calls Try.prog 9 #[.slice a 0 cap] w fun e w' => e = .returned (.bool true) ∧ Q w w' := by
  go_enter Try.func9, Try.ntmps9
  go_wp2_with fail
  refine wp_loop_rounds 1 ?_; rw [rounds_succ]
  go_wp2_with (first
    | (go_at_call 25; refine (sum_none _ _ _).mono ?_; rintro e w2 ⟨rfl, rfl⟩)
    | (go_at_call 22; refine (works_any _).mono ?_; rintro e w5 ⟨rfl, hq5⟩))
  go_ret
  exact ⟨rfl, hq5⟩
theorem satAdds_walk (a : Option Addr) (len cap : Nat) (zs : List Int) (w : World) (h : IsRow .i64 w a len cap zs) :
    Calls Try.prog 9 #[.slice a len cap] w fun e w' => e = .returned (.bool true) ∧ Q w w' := by
  have hcap : len ≤ cap := by
    rcases h with ⟨_, rfl, rfl, _⟩ | ⟨x, _, h1, _⟩
    · omega
    · exact h1
  rcases h.cells with ⟨rfl, _⟩ | ⟨h0, h1, h2, _, b, off, rfl, hb, hc⟩
  · exact satAdds_zero _ cap w
  · by_cases hbig : 300 < len
    · exact satAdds_big _ len cap hbig h1 w
    · have := satAdds_loop b off cap (zs.take len) (by omega) (by omega) (by omega) w hb hc
      rwa [h2] at this
end Go.Proofs.Ytjakhgcmfpldgaa
