/- The contracts of slices.Clone and of Keep. -/
import Derived.Test.YtadfdkhgjjehnaaDoorMisB
import Derived.Test.YtadfdkhgjjehnaaDoorShelf
import Derived.Lib.SliceRun
import Derived.Lib.SmallJoins
namespace Go.Proofs.YtadfdkhgjjehnaaDoor
open Go.RowKit
set_option linter.unusedVariables false
set_option linter.unusedSimpArgs false
theorem info2 : (Tryd.prog.info? 2).map (fun i => (i.zero, i.size, i.bytes)) = some (some (.int .i64 0), 1, 8) := by kernel_rfl
theorem size2 (w : World) : (Go.sizeOf 2).run Tryd.prog w = .ok 1 w := by kernel_rfl
theorem own_later {w w' : World} {base : Nat} {e : TypeId} {size : Nat} {v : Value} {n : Nat} {xs : List Value} (h : w.ownsRow base e size v n xs) (q : Q w w') : w'.ownsRow base e size v n xs := by
  refine h.kept (row := none) ⟨q.os, q.tape, q.output, q.size, fun k hk _ => q.block k hk⟩ ?_
  cases hv : v.ownBlock with
  | none => exact Or.inl rfl
  | some k => exact Or.inr (by simp)
theorem one_ints (l : List Int) : ∀ u ∈ l.map (Value.int .i64), u.oneCell' = true := by
  intro u hu
  obtain ⟨n, _, rfl⟩ := List.mem_map.1 hu
  rfl
theorem nil_eq (w : World) (a : Option Addr) (n c : Nat) : (binOp .eql 22 (.slice a n c) (.slice none 0 0)).run Tryd.prog w = .ok (.bool a.isNone) w := Lib.run_eql_slice_nil w _ _ a n c 0 0 Tryd.underlying22
theorem made_grow {w w1 : World} {o : Obj} (hgrow : (w.alloc o).grownBy w1 (Value.slice (some ⟨w.heap.size, 0, none⟩) 0 0).ownBlock) : Q w w1 :=
  ((Q.refl w).alloc _).grown hgrow (by intro k hk; simp [Value.ownBlock] at hk; omega)
theorem clone_zero (x : Addr) (c : Nat) (w : World) :
    Calls Tryd.prog 34 #[.slice (some x) 0 c] w fun e w' => ∃ v, e = .returned v ∧ w'.ownsRow w.heap.size 2 1 v 0 [] ∧ Q w w' := by
  obtain ⟨i0, hi, hz0, hz1, hz2⟩ := info_parts info2
  have hne := fun w => nil_eq w (some x) 0 c
  simp at hne
  go_enter Tryd.func34, Tryd.ntmps34
  go_wp2_with (at_builtin; go_loud (refine wpList_append_own _ rfl (.tmp 5) (.tmp 6) 22 rfl w.heap.size 2 i0 (.int .i64 0) 1 8 Tryd.underlying22 hi hz0 hz1 hz2 rfl (by decide) _ 0 [] rfl (World.ownsRow_made w #[] 0 (by omega) (by decide) rfl) x 0 c [] rfl rfl (by intro j u h; simp at h) (by simp) (by decide) (by decide) (by simp) ?_); intro v' w1 hown hgrow hiff; have hq := made_grow hgrow; clear hgrow hiff)
  go_ret
  exact ⟨v', rfl, by simpa using hown, hq⟩
theorem clone_any (a : Option Addr) (xs : List Int) (n c : Nat) (hn : xs.length = n) (hb : n ≤ 1000000000) (w : World) (h : Sl a xs w) :
    Calls Tryd.prog 34 #[.slice a n c] w fun e w' => ∃ v, e = .returned v ∧ w'.ownsRow w.heap.size 2 1 v n (xs.map (Value.int .i64)) ∧ Q w w' := by
  rcases h.parts hn with rfl | ⟨h0, b, off, rfl, hl, hc⟩
  · obtain rfl : xs = [] := List.length_eq_zero_iff.1 hn
    cases a with
    | none =>
      refine (Tryd.slices_Clone_nil 0 c w).mono ?_
      rintro e w' ⟨rfl, rfl⟩
      exact ⟨_, rfl, World.ownsRow_nil _ _ _ _, Q.refl _⟩
    | some x => exact clone_zero x c w
  · obtain ⟨i0, hi, hz0, hz1, hz2⟩ := info_parts info2
    refine (Tryd.slices_Clone i0 (.int .i64 0) 1 8 hi hz0 hz1 hz2 rfl (by decide) size2 b off n c (xs.map (Value.int .i64)) w (by simp [hn]) (by unfold maxLen; omega) (by omega) ?_ (one_ints xs)).mono ?_
    · intro j u hj
      obtain ⟨hj1, rfl⟩ := List.getElem?_eq_some_iff.1 hj
      have hj2 : j < n := by rw [← hn]; simpa using hj1
      rw [hc j hj2]
      simp [List.getD, hn, hj2]
    · rintro e w' ⟨v, rfl, h1, _, h2⟩
      exact ⟨v, rfl, h1, h2⟩
theorem elem22 : Tryd.prog.elem 22 = 2 := by kernel_rfl
theorem slice22 : Tryd.prog.underlying 22 = some (.slice (Tryd.prog.elem 22)) := by rw [elem22]; exact Tryd.underlying22
theorem cut_l (a : Option Addr) (xs : List Int) (n c d : Nat) (hn : xs.length = n) (hc : n ≤ c) (hd : d ≤ n) (w : World) (h : Sl a xs w) :
    ∃ a1, (∀ w2, (Instr.slice 22 (.slice a n c) (some (.int .i64 (d : Int))) none none).run Tryd.prog w2 = .ok (.slice a1 (n - d) (c - d)) w2) ∧ Sl a1 (xs.drop d) w := by
  refine ⟨if c = d then a else a.map (·.add (d * 1)), fun w2 => ?_, ?_⟩
  · rw [run_slice_l (P := Tryd.prog) (w := w2) 22 a n c slice22 .i64 (d : Int) (by omega) (by omega)]
    rw [elem22, size2]
    simp only [Result.andThen, sliced, Int.toNat_natCast, Nat.sub_zero]
  · rcases h.parts hn with h0 | ⟨h0, b, off, rfl, hl, hcell⟩
    · exact Or.inl (by rw [List.length_drop]; omega)
    · rcases Nat.lt_or_ge d n with hlt | hge
      · right
        rw [if_neg (by omega)]
        refine ⟨b, off + d, ?_, hl, fun j hj => ?_⟩
        · simp [Go.WideShapes.add_plain]
        · rw [List.length_drop] at hj
          have := hcell (d + j) (by omega)
          rw [Nat.add_assoc, this]
          simp [List.getD]
      · exact Or.inl (by rw [List.length_drop]; omega)
theorem cut_h (a : Option Addr) (xs : List Int) (n c d : Nat) (hn : xs.length = n) (hc : n ≤ c) (hd : d ≤ n) (w : World) (h : Sl a xs w) :
    ∃ a1, (∀ w2, (Instr.slice 22 (.slice a n c) none (some (.int .i64 (d : Int))) none).run Tryd.prog w2 = .ok (.slice a1 d c) w2) ∧ Sl a1 (xs.take d) w := by
  refine ⟨if c = 0 then a else a.map (·.add (0 * 1)), fun w2 => ?_, ?_⟩
  · rw [run_slice_h (P := Tryd.prog) (w := w2) 22 a n c slice22 .i64 (d : Int) (by omega) (by omega)]
    rw [elem22, size2]
    simp only [Result.andThen, sliced, Int.toNat_natCast, Nat.sub_zero]
  · rcases h.parts hn with h0 | ⟨h0, b, off, rfl, hl, hcell⟩
    · exact Or.inl (by rw [List.length_take]; omega)
    · right
      rw [if_neg (by omega)]
      refine ⟨b, off, ?_, hl, fun j hj => ?_⟩
      · simp [Go.WideShapes.add_plain]
      · rw [List.length_take] at hj
        rw [hcell j (by omega)]
        simp only [List.getD_eq_getElem?_getD, List.getElem?_take]
        rw [if_pos (by omega)]
/-- how many are dropped; what is kept and dropped -/
def drp (p k : Int) (n : Nat) : Nat := ((n : Int) - Mf.kept p k n).toNat
def keepE (p k : Int) (xs : List Int) : Int := Mf.or2 (Mf.chkE p k) (Mf.listE xs)
def keepK (p k : Int) (xs : List Int) : List Int := if keepE p k xs = 0 then xs.drop (drp p k xs.length) else []
def keepD (p k : Int) (xs : List Int) : List Int := if keepE p k xs = 0 then xs.take (drp p k xs.length) else []
theorem keepE_zero {p k : Int} {xs : List Int} (h : keepE p k xs = 0) : Mf.chkE p k = 0 ∧ Mf.listE xs = 0 := by
  unfold keepE Mf.or2 at h
  split at h
  · exact ⟨by assumption, h⟩
  · contradiction
/-- two slices of the call's own, apart -/
def Two (base : Nat) (v1 v2 : Value) (l1 l2 : List Int) (w : World) : Prop :=
  w.ownsRow base 2 1 v1 l1.length (l1.map (Value.int .i64)) ∧ w.ownsRow base 2 1 v2 l2.length (l2.map (Value.int .i64)) ∧ (v1.ownBlock = none ∨ v1.ownBlock ≠ v2.ownBlock)
theorem Two.nil (base : Nat) (w : World) : Two base (.slice none 0 0) (.slice none 0 0) [] [] w := ⟨World.ownsRow_nil _ _ _ _, World.ownsRow_nil _ _ _ _, Or.inl rfl⟩
theorem Two.later {base : Nat} {v1 v2 : Value} {l1 l2 : List Int} {w w' : World} (h : Two base v1 v2 l1 l2 w) (q : Q w w') : Two base v1 v2 l1 l2 w' :=
  ⟨own_later h.1 q, own_later h.2.1 q, h.2.2⟩
theorem Two.mk' {w w1 w2 : World} {v1 v2 : Value} {l1 l2 : List Int} {n1 n2 base : Nat} (hn1 : l1.length = n1) (hn2 : l2.length = n2) (h1 : w1.ownsRow w.heap.size 2 1 v1 n1 (l1.map (Value.int .i64))) (h2 : w2.ownsRow w1.heap.size 2 1 v2 n2 (l2.map (Value.int .i64))) (q : Q w1 w2) (hb : base ≤ w.heap.size) (hb1 : w.heap.size ≤ w1.heap.size) : Two base v1 v2 l1 l2 w2 := by
  subst hn1; subst hn2
  refine ⟨own_later (Go.Joins.ownsRow_le h1 hb) q, Go.Joins.ownsRow_le h2 (by omega), ?_⟩
  cases hv1 : v1.ownBlock with
  | none => exact Or.inl rfl
  | some k1 =>
    right
    intro e
    have a := (h1.lt k1 hv1).2
    have b := (h2.lt k1 (by rw [← e])).1
    omega
/-- what Keep leaves -/
def KeepPost (p k : Int) (xs : List Int) (w : World) (e : Ending) (w' : World) : Prop :=
  ∃ v1 v2, e = .returned (.tuple #[v1, v2, .int .i64 (keepE p k xs)]) ∧ Two w.heap.size v1 v2 (keepK p k xs) (keepD p k xs) w' ∧ Q w w'
theorem drp_le {p k : Int} {n : Nat} (h : Mf.chkE p k = 0) : drp p k n ≤ n ∧ ((drp p k n : Nat) : Int) = n - Mf.kept p k n := by
  have := kept_bd (n := (n : Int)) h (by omega)
  unfold drp; omega
theorem keep_ok (p k : Int) (a : Option Addr) (xs : List Int) (n c : Nat) (hn : xs.length = n) (hb : n ≤ 1000000000) (hc : n ≤ c) (w : World) (h : Sl a xs w) (h0 : keepE p k xs = 0) :
    Calls Tryd.prog 15 #[.int .i64 p, .int .i64 k, .slice a n c] w (KeepPost p k xs w) := by
  obtain ⟨e1, e2⟩ := keepE_zero h0
  obtain ⟨d1, d2⟩ := drp_le (n := n) e1
  have hgi : goInt n = .int .i64 n := by simp [goInt]
  obtain ⟨a1, s1, z1⟩ := cut_l a xs n c (drp p k n) hn hc d1 w h
  obtain ⟨a2, s2, z2⟩ := cut_h a xs n c (drp p k n) hn hc d1 w h
  have l1 : (xs.drop (drp p k n)).length = n - drp p k n := by rw [List.length_drop, hn]
  have l2 : (xs.take (drp p k n)).length = drp p k n := by rw [List.length_take, hn]; omega
  have kc := fun w2 => check_any p k w2
  rw [e1] at kc
  have kl := fun w2 (g : Sl a xs w2) => list_any a xs n c hn hb w2 g
  rw [e2] at kl
  have kn := fun w2 => count_any p k n (by omega) w2
  have c1 : cntM p k n = Mf.kept p k n := if_pos ⟨e1, by omega⟩
  have c2 : cntD p k n = drp p k n := by unfold cntD; rw [if_pos ⟨e1, by omega⟩, d2]
  have c3 : cntE p k n = 0 := if_pos ⟨e1, by omega⟩
  rw [c1, c2, c3] at kn
  have HK : KeepPost p k xs w = fun e w' => ∃ v1 v2, e = .returned (.tuple #[v1, v2, .int .i64 0]) ∧ Two w.heap.size v1 v2 (xs.drop (drp p k n)) (xs.take (drp p k n)) w' ∧ Q w w' := by
    unfold KeepPost keepK keepD
    rw [if_pos h0, if_pos h0, h0, hn]
  rw [HK]
  have hsum : drp p k n ≤ n := d1
  generalize drp p k n = d at *
  generalize Mf.kept p k n = m at *
  have L1 := Lib.hid l1; have L2 := Lib.hid l2
  clear HK h0 e1 e2 d2 c1 c2 c3 hn l1 l2
  go_enter Tryd.func15, Tryd.ntmps15
  go_wp2_with (first
    | (go_at_call 19; refine (kc _).mono ?_; rintro e w1 ⟨rfl, hq1⟩)
    | (go_at_call 33; refine (kl _ (h.later (by repeat (first | exact Q.refl _ | assumption | refine Q.alloc ?_ _ | refine Q.drew ?_ | refine Q.drewN ?_ _ | refine Q.trans ?_ (by assumption))))).mono ?_; rintro e w2 ⟨rfl, rfl⟩)
    | (go_at_call 32; refine (or2_any _ 0 0 _ ?_ ?_).mono ?_; (· simp); (· simp); rintro e w3 ⟨rfl, rfl⟩)
    | (go_at_call 17; refine (kn _).mono ?_; rintro e w4 ⟨rfl, hq4⟩))
  go_region_held3 (fun _ => True) (go_keep) (first
    | (go_at_call 34; with_reducible refine (clone_any a1 _ _ _ L1.out (by omega) _ (z1.later (by repeat (first | exact Q.refl _ | assumption | refine Q.alloc ?_ _ | refine Q.drew ?_ | refine Q.drewN ?_ _ | refine Q.trans ?_ (by assumption))))).mono ?_; rintro e w5 ⟨v1, rfl, ho1, hq5⟩)
    | (go_at_call 34; with_reducible refine (clone_any a2 _ _ _ L2.out (by omega) _ (z2.later (by repeat (first | exact Q.refl _ | assumption | refine Q.alloc ?_ _ | refine Q.drew ?_ | refine Q.drewN ?_ _ | refine Q.trans ?_ (by assumption))))).mono ?_; rintro e w6 ⟨v2, rfl, ho2, hq6⟩))
  all_goals
    go_wp2_with fail
    have hqa : Q w w4.drew := by repeat (first | exact Q.refl _ | assumption | refine Q.alloc ?_ _ | refine Q.drew ?_ | refine Q.drewN ?_ _ | refine Q.trans ?_ (by assumption))
    have hqb : Q w w6 := by repeat (first | exact Q.refl _ | assumption | refine Q.alloc ?_ _ | refine Q.drew ?_ | refine Q.drewN ?_ _ | refine Q.trans ?_ (by assumption))
    exact bodyPost_ret (v := .tuple #[v1, v2, .int .i64 0]) (by simp [results, Tryd.results15, go_sem]) rfl ⟨v1, v2, rfl, Two.mk' L1.out L2.out ho1 ho2 hq6 hqa.size hq5.size, hqb⟩
theorem keep_err (p k : Int) (a : Option Addr) (xs : List Int) (n c : Nat) (hn : xs.length = n) (hb : n ≤ 1000000000) (w : World) (h : Sl a xs w) (h0 : ¬ keepE p k xs = 0) :
    Calls Tryd.prog 15 #[.int .i64 p, .int .i64 k, .slice a n c] w (KeepPost p k xs w) := by
  have kc := fun w2 => check_any p k w2
  have kl := fun w2 (g : Sl a xs w2) => list_any a xs n c hn hb w2 g
  have HK : KeepPost p k xs w = fun e w' => ∃ v1 v2, e = .returned (.tuple #[v1, v2, .int .i64 (Mf.or2 (Mf.chkE p k) (Mf.listE xs))]) ∧ Two w.heap.size v1 v2 [] [] w' ∧ Q w w' := by
    unfold KeepPost keepK keepD
    rw [if_neg h0, if_neg h0]; rfl
  rw [HK]
  have hne : ¬ Mf.or2 (Mf.chkE p k) (Mf.listE xs) = 0 := h0
  obtain ⟨x, hx⟩ : ∃ x, Mf.chkE p k = x := ⟨_, rfl⟩
  obtain ⟨y, hy⟩ : ∃ x, Mf.listE xs = x := ⟨_, rfl⟩
  rw [hx] at kc hne ⊢
  rw [hy] at kl hne ⊢
  have y1 : (Mf.or2 x y != 0) = true := bne_t hne
  clear HK h0 hn hx hy hne
  go_enter Tryd.func15, Tryd.ntmps15
  go_wp2_with (first
    | (go_at_call 19; refine (kc _).mono ?_; rintro e w1 ⟨rfl, hq1⟩)
    | (go_at_call 33; refine (kl _ (h.later (by repeat (first | exact Q.refl _ | assumption | refine Q.alloc ?_ _ | refine Q.drew ?_ | refine Q.drewN ?_ _ | refine Q.trans ?_ (by assumption))))).mono ?_; rintro e w2 ⟨rfl, rfl⟩)
    | (go_at_call 32; refine (or2_any _ x y _ ?_ ?_).mono ?_; (· simp); (· simp); rintro e w3 ⟨rfl, rfl⟩))
  exact bodyPost_ret (v := .tuple #[.slice none 0 0, .slice none 0 0, .int .i64 (Mf.or2 x y)]) (by simp [results, Tryd.results15, go_sem]) rfl ⟨_, _, rfl, Two.nil _ _, by repeat (first | exact Q.refl _ | assumption | refine Q.alloc ?_ _ | refine Q.drew ?_ | refine Q.drewN ?_ _ | refine Q.trans ?_ (by assumption))⟩
theorem keep_any (p k : Int) (a : Option Addr) (xs : List Int) (n c : Nat) (hn : xs.length = n) (hb : n ≤ 1000000000) (hc : n ≤ c) (w : World) (h : Sl a xs w) :
    Calls Tryd.prog 15 #[.int .i64 p, .int .i64 k, .slice a n c] w (KeepPost p k xs w) := by
  by_cases h0 : keepE p k xs = 0
  · exact keep_ok p k a xs n c hn hb hc w h h0
  · exact keep_err p k a xs n c hn hb w h h0
end Go.Proofs.YtadfdkhgjjehnaaDoor
