/- The walk of the law SatTotals: it returns true. -/
import Derived.Test.YtjakhgcmfpldgaaLawsD
import Derived.Deep.RegionWith
import Derived.Laws.AppendOwnNone
import Derived.Laws.OwnMore
namespace Go.Proofs.Ytjakhgcmfpldgaa
open Go.RowKit
set_option linter.unusedVariables false
/-- a slice of integers among the arguments, as the row's proof hands it over -/
def IsRow (k : IntKind) (w : World) (a : Option Addr) (len cap : Nat) (zs : List Int) : Prop :=
  (a = none ∧ len = 0 ∧ cap = 0 ∧ zs = []) ∨
  ∃ x, a = some x ∧ len ≤ cap ∧ cap ≤ maxLen ∧ zs.length = cap ∧ (∀ i, i < zs.length → w.cell? (x.add i) = some (.int k (zs.getD i 0))) ∧ ∀ n ∈ zs, (Lit.int k n).wf = true
/-- its elements alone: none, or cells in a row -/
theorem IsRow.cells {w : World} {a : Option Addr} {len cap : Nat} {zs : List Int} (h : IsRow .i64 w a len cap zs) :
    (len = 0 ∧ (a = none ∧ cap = 0 ∨ ∃ x, a = some x)) ∨ (0 < len ∧ len ≤ maxLen ∧ (zs.take len).length = len ∧ (∀ n ∈ zs.take len, (Lit.int .i64 n).wf = true) ∧ ∃ b off, a = some ⟨b, off, none⟩ ∧ b < w.heap.size ∧ ∀ j, j < (zs.take len).length → w.cell? ⟨b, off + j, none⟩ = some (.int .i64 ((zs.take len).getD j 0))) := by
  rcases h with ⟨rfl, rfl, rfl, rfl⟩ | ⟨x, rfl, h1, h2, h3, h4, h5⟩
  · exact .inl ⟨rfl, .inl ⟨rfl, rfl⟩⟩
  · by_cases hl : len = 0
    · exact .inl ⟨hl, .inr ⟨x, rfl⟩⟩
    · obtain ⟨b, off, rfl, hc⟩ := Go.ints_at h4 (by omega)
      have hlen : (zs.take len).length = len := by rw [List.length_take]; omega
      refine .inr ⟨by omega, by omega, hlen, fun n hn => h5 n (List.mem_of_mem_take hn), b, off, rfl, ?_, fun j hj => ?_⟩
      · have := hc 0 (by omega)
        exact World.block_lt_of_cell? w _ this
      · rw [hc j (by omega)]
        congr 2
        simp only [List.getD_eq_getElem?_getD, List.getElem?_take]
        rw [if_pos (by omega)]
theorem info2 : (Try.prog.info? 2).map (fun i => (i.zero, i.size, i.bytes)) = some (some (.int .i64 0), 1, 8) := by kernel_rfl
theorem Q.grown {a w w' : World} {row : Option Nat} (h : Q a w) (hg : w.grownBy w' row) (hr : ∀ k, row = some k → a.heap.size ≤ k) : Q a w' := Below.grown h hg h.size hr
/-- an owned row of integers that is not empty: its place and its cells -/
theorem owned_ints {w : World} {base : Nat} {v : Value} {l : List Int} (h : w.ownsRow base 2 1 v l.length (l.map (Value.int .i64))) (hl : 0 < l.length) :
    ∃ g cap, v = .slice (some ⟨g, 0, none⟩) l.length cap ∧ g < w.heap.size ∧ base ≤ g ∧ ∀ j, j < l.length → w.cell? ⟨g, 0 + j, none⟩ = some (.int .i64 (l.getD j 0)) := by
  rcases h.2 with ⟨_, h0⟩ | ⟨g, cap, cur, rfl, hb, hg, hrest⟩
  · omega
  · refine ⟨g, cap, rfl, ?_, hb, fun j hj => ?_⟩
    · have := h.lt g rfl; omega
    · have := h.cellAt j (by omega)
      rw [Nat.zero_add, this]
      simp [List.getD_eq_getElem?_getD, hj]
theorem satTotals_big (a : Option Addr) (len cap : Nat) (hl : 1000 < len) (hm : len ≤ maxLen) (w : World) :
    Calls Try.prog 5 #[.slice a len cap] w fun e w' => e = .returned (.bool true) ∧ Q w w' := by
  unfold maxLen at hm
  go_enter Try.func5, Try.ntmps5
  go_wp2_with (go_at_call 22; refine (works_any _).mono ?_; rintro e w5 ⟨rfl, hq5⟩)
  go_ret
  exact ⟨rfl, hq5⟩
theorem satTotals_none (w : World) :
    Calls Try.prog 5 #[.slice none 0 0] w fun e w' => e = .returned (.bool true) ∧ Q w w' := by
  obtain ⟨i0, hi, hz0, hz1, hz2⟩ := info_parts info2
  go_enter Try.func5, Try.ntmps5
  go_wp2_with (first
    | (at_builtin; refine wpList_append_own_none rfl (.tmp 9) (.tmp 10) 31 rfl w.heap.size 2 i0 1 Try.underlying31 hi _ 0 [] rfl (World.ownsRow_made w #[] 0 (by omega) (by decide) rfl) rfl ?_)
    | (go_at_call 25; refine (sum_none _ _ _).mono ?_; rintro e w1 ⟨rfl, rfl⟩)
    | (go_at_call 26; refine (rsum_none _ _ _).mono ?_; rintro e w1 ⟨rfl, rfl⟩))
  refine wp_loop_rounds 1 ?_; rw [rounds_succ]
  go_wp2_with (go_at_call 22; refine (works_any _).mono ?_; rintro e w5 ⟨rfl, hq5⟩)
  go_ret
  exact ⟨rfl, by repeat (first | exact Q.refl _ | assumption | refine Q.alloc ?_ _ | refine Q.trans ?_ (by assumption))⟩
theorem tot_zero {w w1 : World} {v' : Value} (hown : w1.ownsRow w.heap.size 2 1 v' (0 + 0) ([] ++ []))
    (hgrow : (w.alloc (.cells #[] 2)).grownBy w1 (Value.slice (some ⟨w.heap.size, 0, none⟩) 0 0).ownBlock) : ∃ a c, v' = .slice a 0 c ∧ Q w w1 := by
  have hq : Q w w1 := ((Q.refl w).alloc _).grown hgrow (by intro k hk; simp [Value.ownBlock] at hk; omega)
  rcases hown.2 with ⟨h, _⟩ | ⟨g, c, cur, h, _⟩
  · exact ⟨none, 0, h, hq⟩
  · exact ⟨_, c, h, hq⟩
theorem satTotals_zero (x : Addr) (cap : Nat) (w : World) :
    Calls Try.prog 5 #[.slice (some x) 0 cap] w fun e w' => e = .returned (.bool true) ∧ Q w w' := by
  obtain ⟨i0, hi, hz0, hz1, hz2⟩ := info_parts info2
  go_enter Try.func5, Try.ntmps5
  go_wp2_with (first
    | (at_builtin; refine wpList_append_own _ rfl (.tmp 9) (.tmp 10) 31 rfl w.heap.size 2 i0 (.int .i64 0) 1 8 Try.underlying31 hi hz0 hz1 hz2 rfl (by decide) _ 0 [] rfl (World.ownsRow_made w #[] 0 (by omega) (by decide) rfl) x 0 cap [] rfl rfl (by intro j u h; simp at h) (by simp) (by decide) (by decide) (by simp) ?_; intro v' w1 hown hgrow hiff; obtain ⟨a', c', hv, hq⟩ := tot_zero hown hgrow; clear hown hgrow hiff; rw [hv]; clear hv)
    | (go_at_call 25; refine (sum_none _ _ _).mono ?_; rintro e w2 ⟨rfl, rfl⟩)
    | (go_at_call 26; refine (rsum_none _ _ _).mono ?_; rintro e w2 ⟨rfl, rfl⟩))
  refine wp_loop_rounds 1 ?_; rw [rounds_succ]
  go_wp2_with (go_at_call 22; refine (works_any _).mono ?_; rintro e w5 ⟨rfl, hq5⟩)
  go_ret
  exact ⟨rfl, by repeat (first | exact Q.refl _ | assumption | refine Q.alloc ?_ _ | refine Q.trans ?_ (by assumption))⟩
theorem arg_cells {w : World} {b off : Nat} {l : List Int} (hb : b < w.heap.size) (hc : ∀ j, j < l.length → w.cell? ⟨b, off + j, none⟩ = some (.int .i64 (l.getD j 0))) (o : Obj) :
    ∀ j u, (l.map (Value.int .i64))[j]? = some u → (w.alloc o).cell? ((⟨b, off, none⟩ : Addr).add j) = some u := by
  intro j u h
  obtain ⟨hj, rfl⟩ := List.getElem?_eq_some_iff.1 h
  have hj' : j < l.length := by simpa using hj
  have := hc j hj'
  rw [Go.WideShapes.add_plain]
  rw [show (w.alloc o).cell? ⟨b, off + j, none⟩ = w.cell? ⟨b, off + j, none⟩ from Q.cell ((Q.refl w).alloc _) (p := ⟨b, off + j, none⟩) hb, this]
  simp [List.getD_eq_getElem?_getD, hj']
theorem one_ints (l : List Int) : ∀ u ∈ l.map (Value.int .i64), u.oneCell' = true := by
  intro u hu
  obtain ⟨n, _, rfl⟩ := List.mem_map.1 hu
  rfl
theorem tot_some {w w1 : World} {v' : Value} {b off : Nat} {l : List Int} (hl : 0 < l.length) (hb : b < w.heap.size)
    (hc : ∀ j, j < l.length → w.cell? ⟨b, off + j, none⟩ = some (.int .i64 (l.getD j 0)))
    (hown : w1.ownsRow w.heap.size 2 1 v' (0 + l.length) ([] ++ l.map (Value.int .i64)))
    (hgrow : (w.alloc (.cells #[] 2)).grownBy w1 (Value.slice (some ⟨w.heap.size, 0, none⟩) 0 0).ownBlock) :
    ∃ g cap', v' = .slice (some ⟨g, 0, none⟩) l.length cap' ∧ Q w w1 ∧ g < w1.heap.size ∧ b < w1.heap.size ∧ (∀ j, j < l.length → w1.cell? ⟨g, 0 + j, none⟩ = some (.int .i64 (l.getD j 0))) ∧ (∀ j, j < l.length → w1.cell? ⟨b, off + j, none⟩ = some (.int .i64 (l.getD j 0))) := by
  have hq : Q w w1 := ((Q.refl w).alloc _).grown hgrow (by intro k hk; simp [Value.ownBlock] at hk; omega)
  simp only [Nat.zero_add, List.nil_append] at hown
  obtain ⟨g, cap', hv, hg, hgb, hcg⟩ := owned_ints hown hl
  exact ⟨g, cap', hv, hq, hg, by have := hq.size; omega, hcg, fun j hj => (hq.cell (p := ⟨b, off + j, none⟩) hb).trans (hc j hj)⟩
theorem satTotals_some (b off cap : Nat) (l : List Int) (hl : 0 < l.length) (hm : l.length ≤ 1000) (w : World) (hb : b < w.heap.size)
    (hc : ∀ j, j < l.length → w.cell? ⟨b, off + j, none⟩ = some (.int .i64 (l.getD j 0))) :
    Calls Try.prog 5 #[.slice (some ⟨b, off, none⟩) l.length cap] w fun e w' => e = .returned (.bool true) ∧ Q w w' := by
  obtain ⟨i0, hi, hz0, hz1, hz2⟩ := info_parts info2
  have Hc := Lib.hid hc; clear hc
  go_enter Try.func5, Try.ntmps5
  go_wp2_with (first
    | (at_builtin; refine wpList_append_own _ rfl (.tmp 9) (.tmp 10) 31 rfl w.heap.size 2 i0 (.int .i64 0) 1 8 Try.underlying31 hi hz0 hz1 hz2 rfl (by decide) _ 0 [] rfl (World.ownsRow_made w #[] 0 (by omega) (by decide) rfl) ⟨b, off, none⟩ l.length cap (l.map (Value.int .i64)) rfl (by simp) (arg_cells hb Hc.out _) (one_ints l) (by unfold maxLen; omega) (by omega) (by simp) ?_; intro v' w1 hown hgrow hiff; obtain ⟨g, cap', hv, hq, hg, hb1, hcg, hcb⟩ := tot_some hl hb Hc.out hown hgrow; clear hown hgrow hiff; rw [hv]; clear hv; have Hcg := Lib.hid hcg; clear hcg; have Hcb := Lib.hid hcb; clear hcb)
    | (go_at_call 25; refine (sum_any _ _ _ _ _ (by omega) Hcg.out).mono ?_; rintro e w2 ⟨rfl, rfl⟩)
    | (go_at_call 26; refine (rsum_any _ _ _ _ _ (by omega) Hcb.out).mono ?_; rintro e w2 ⟨rfl, rfl⟩))
  go_loopw [19] (fun vi wr => ∃ k : Nat, k ≤ l.length ∧ vi = .int .i64 k ∧ Q w1 wr) (fun vi _ => (l.length - intOf vi).toNat)
  case atStart => exact ⟨0, by omega, rfl, Q.refl _⟩
  case round =>
    obtain ⟨k, hk, rfl, hqr⟩ := hrel
    by_cases hlt : k < l.length
    · have c1 : wr.cell? ⟨g, k, none⟩ = some (.int .i64 l[k]) := by
        have := (hqr.cell (p := ⟨g, 0 + k, none⟩) hg).trans (Hcg.out k hlt)
        rwa [Nat.zero_add, getD_of hlt] at this
      have c2 : wr.cell? ⟨b, off + k, none⟩ = some (.int .i64 l[k]) := by
        have := (hqr.cell (p := ⟨b, off + k, none⟩) hb1).trans (Hcb.out k hlt)
        rwa [getD_of hlt] at this
      go_wp2_with fail
      go_quiet (fail)
      go_wp2_with fail
      go_roundw
      case rel => exact ⟨k + 1, by omega, by go_num, hqr.drewN _⟩
      case measure => simp [intOf]; omega
    · skip
      go_wp2_with (go_at_call 22; refine (works_any _).mono ?_; rintro e w5 ⟨rfl, hq5⟩)
      go_ret
      exact ⟨rfl, by repeat (first | exact Q.refl _ | assumption | refine Q.alloc ?_ _ | refine Q.trans ?_ (by assumption))⟩
theorem satTotals_walk (a : Option Addr) (len cap : Nat) (zs : List Int) (w : World) (h : IsRow .i64 w a len cap zs) :
    Calls Try.prog 5 #[.slice a len cap] w fun e w' => e = .returned (.bool true) ∧ Q w w' := by
  rcases h.cells with ⟨rfl, ⟨rfl, rfl⟩ | ⟨x, rfl⟩⟩ | ⟨h0, h1, h2, _, b, off, rfl, hb, hc⟩
  · exact satTotals_none w
  · exact satTotals_zero x cap w
  · by_cases hbig : 1000 < len
    · exact satTotals_big _ len cap hbig h1 w
    · have := satTotals_some b off cap (zs.take len) (by omega) (by omega) w hb hc
      rwa [h2] at this
end Go.Proofs.Ytjakhgcmfpldgaa
