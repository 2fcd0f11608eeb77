/- The contract of merged's iterator. -/
import Derived.Test.YtadfdkhgjjehnaaDoorMisD
import Derived.Test.YtadfdkhgjjehnaaDoorMgp
import Derived.Test.YtadfdkhgjjehnaaDoorMisT
import Derived.RangeFuncNested
import Derived.RangeFuncBound
import Derived.RangeFuncCalls
import Derived.RangeFuncLeaves
import Derived.Shelf.Abstract
import Derived.Shelf.RegionOpen
import Derived.OwnWalkIn
import Derived.TacticsInMore
import Derived.LoopNIn
import Derived.LoopIn
import Derived.Sort.LoopGhostIn
import Derived.Sort.QuietIn
import Derived.Stop.RegionWithIn
namespace Go.Proofs.YtadfdkhgjjehnaaDoor
open Go.RowKit Go.Shelf
set_option linter.unusedVariables false
set_option linter.unusedSimpArgs false
attribute [local go_sem] Oper.semAt_some
/-- a slice of int64 below block n₀ -/
def SlB (n₀ : Nat) (a : Option Addr) (xs : List Int) (w : World) : Prop := xs.length = 0 ∨ ∃ b off, a = some ⟨b, off, none⟩ ∧ b < n₀ ∧ ∀ j, j < xs.length → w.cell? ⟨b, off + j, none⟩ = some (.int .i64 (xs.getD j 0))
theorem SlB.below {n₀ : Nat} {a : Option Addr} {xs : List Int} {w w' : World} (h : SlB n₀ a xs w) (q : Below n₀ w w') : SlB n₀ a xs w' := by
  rcases h with h | ⟨b, off, rfl, hb, hc⟩
  · exact Or.inl h
  · exact Or.inr ⟨b, off, rfl, hb, fun j hj => (q.cell (p := ⟨b, off + j, none⟩) hb).trans (hc j hj)⟩
/-- a slice of slices of int64 below block n₀ -/
def LmB (n₀ b off : Nat) (ad : Nat → Option Addr) (cp : Nat → Nat) (L : List (List Int)) (w : World) : Prop := b < n₀ ∧ ∀ i, i < L.length → w.cell? ⟨b, off + i, none⟩ = some (.slice (ad i) (Mf.ln L i) (cp i)) ∧ SlB n₀ (ad i) (Mf.row L i) w
theorem LmB.below {n₀ b off : Nat} {ad : Nat → Option Addr} {cp : Nat → Nat} {L : List (List Int)} {w w' : World} (h : LmB n₀ b off ad cp L w) (q : Below n₀ w w') : LmB n₀ b off ad cp L w' :=
  ⟨h.1, fun i hi => ⟨(q.cell (p := ⟨b, off + i, none⟩) h.1).trans (h.2 i hi).1, (h.2 i hi).2.below q⟩⟩
theorem info3 : (Tryd.prog.info? 3).map (fun i => (i.zero, i.size, i.bytes)) = some (some (.int .i64 0), 1, 8) := by kernel_rfl
/-- what a round keeps -/
def KeepM (B n₀ : Nat) (w w' : World) : Prop := w'.heap[B]? = w.heap[B]? ∧ Below n₀ w w'
/-- between two rounds -/
def MR (n₀ Bat : Nat) (L : List (List Int)) (J : List (Int × Int) → World → Prop) (W : World) (k : Nat) (wr : World) : Prop :=
  k ≤ Mf.tot L ∧ J (Mf.upto L k) wr ∧ Below n₀ W wr ∧ Bat < wr.heap.size ∧ ∀ j, j < L.length → wr.cell? ⟨Bat, j, none⟩ = some (.int .i64 (Mf.st L k j)) ∧ wr.frozen? ⟨Bat, j, none⟩ = false
theorem grown_drewN (w : World) (m : Nat) : w.grownBy (w.drewN m) none := ⟨rfl, rfl, rfl, Nat.le_refl _, fun _ _ _ => rfl⟩
theorem MR.drewN {n₀ : Nat} {L : List (List Int)} {J : List (Int × Int) → World → Prop} {W wr : World} {k : Nat} (h : MR n₀ W.heap.size L J W k wr)
    (hJ : ∀ pre W1 W2 row, J pre W1 → W1.grownBy W2 row → (∀ r, row = some r → r = W.heap.size) → J pre W2) (m : Nat) : MR n₀ W.heap.size L J W k (wr.drewN m) := by
  obtain ⟨h1, h2, h3, h4, h5⟩ := h
  exact ⟨h1, hJ _ _ _ none h2 (grown_drewN wr m) (fun r e => by cases e), ⟨h3.os, h3.tape, h3.output, h3.size, h3.block⟩, h4, h5⟩
theorem grown_set (w : World) (p : Addr) (v : Value) : w.grownBy (w.setCell p v) (some p.block) :=
  ⟨rfl, rfl, rfl, by rw [World.size_setCell]; exact Nat.le_refl _, fun k _ hk => heap_setCell_other w p k v (by intro e; apply hk; rw [e])⟩
/-- one round on -/
theorem MR.step {n₀ : Nat} {L : List (List Int)} {J : List (Int × Int) → World → Prop} {W wr W3 : World} {k bb : Nat} (h : MR n₀ W.heap.size L J W k wr)
    (hJ : ∀ pre W1 W2 row, J pre W1 → W1.grownBy W2 row → (∀ r, row = some r → r = W.heap.size) → J pre W2) (hk : k < Mf.tot L) (hb : Mf.bk L k = some bb) (hn₀ : n₀ ≤ W.heap.size)
    (h3 : J (Mf.upto L k ++ [Mf.item L k]) W3) (hK : KeepM W.heap.size n₀ wr W3) (hz : wr.heap.size ≤ W3.heap.size) :
    MR n₀ W.heap.size L J W (k + 1) (W3.setCell ⟨W.heap.size, bb, none⟩ (.int .i64 ((Mf.st L k bb : Int) + 1))) := by
  obtain ⟨h1, h2, h3', h4, h5⟩ := h
  have hb1 := (Mf.bk_bd hb).1
  have hc : ∀ j, j < L.length → W3.cell? ⟨W.heap.size, j, none⟩ = some (.int .i64 (Mf.st L k j)) ∧ W3.frozen? ⟨W.heap.size, j, none⟩ = false := fun j hj =>
    ⟨(World.cell?_of_block (a := ⟨W.heap.size, j, none⟩) hK.1).trans (h5 j hj).1, (World.frozen?_of_block (a := ⟨W.heap.size, j, none⟩) hK.1).trans (h5 j hj).2⟩
  refine ⟨hk, ?_, (h3'.trans hK.2).setCell (p := ⟨W.heap.size, bb, none⟩) hn₀ _, by rw [World.size_setCell]; omega, fun j hj => ?_⟩
  · rw [Mf.upto_succ]
    exact hJ _ _ _ _ h3 (grown_set _ _ _) (fun r e => by cases e; rfl)
  · rw [World.frozen?_setCell]
    refine ⟨?_, (hc j hj).2⟩
    by_cases e : j = bb
    · subst e
      rw [World.cell?_setCell_same _ _ _ (hc j hj).1, Mf.st_up hb, if_pos rfl]
      simp
    · rw [World.cell?_setCell_other _ _ _ _ (by simp; try exact e), (hc j hj).1, Mf.st_up hb, if_neg e]
/-- the inner loop's relation -/
def IR (n₀ : Nat) (L : List (List Int)) (J : List (Int × Int) → World → Prop) (W : World) (k n i : Nat) (vb : Value) (wr : World) : Prop :=
  i ≤ n ∧ vb = .int .i64 (Mf.bi (Mf.bst L (Mf.st L k) i)) ∧ MR n₀ W.heap.size L J W k wr
set_option maxRecDepth 20000 in
set_option maxHeartbeats 4000000 in
theorem merged_in (m l Bl n₀ b off n C : Nat) (hm : 1 ≤ m) (ad : Nat → Option Addr) (cp : Nat → Nat) (L : List (List Int)) (hn : L.length = n) (hn64 : n ≤ 1000000) (hln : ∀ j, j < n → Mf.ln L j ≤ 1000000000) (W : World) (J : List (Int × Int) → World → Prop)
    (hJ : ∀ pre W1 W2 row, J pre W1 → W1.grownBy W2 row → (∀ r, row = some r → r = W.heap.size) → J pre W2)
    (hY : ∀ pre x W1, J pre W1 → pre.length < Mf.tot L → W.heap.size < W1.heap.size → YieldAt Fence.wide (m - 1) Tryd.prog l #[.agg #[.int .i64 x.1, .int .i64 x.2]] W1 fun e W' => e = .returned (.bool true) ∧ J (pre ++ [x]) W' ∧ KeepM W.heap.size n₀ W1 W')
    (hbox : W.cell? ⟨Bl, 0, none⟩ = some (.slice (some ⟨b, off, none⟩) n C)) (hBl : Bl < n₀) (hL : LmB n₀ b off ad cp L W) (hn₀ : n₀ ≤ W.heap.size) (h0 : J [] W) :
    CallsIn Fence.wide m Tryd.prog 50 #[.func (.yield l) #[] #[], .pointer (some ⟨Bl, 0, none⟩)] W fun e W' => (∃ v, e = .returned v) ∧ J (Mf.mrg L) W' := by
  have hgi : goInt n = .int .i64 n := by simp [goInt]
  obtain ⟨i0, hi, hz0, hz1, hz2⟩ := info_parts info3
  obtain ⟨w1, hmk, ho, hg⟩ := run_make_full (P := Tryd.prog) W W.heap.size 41 3 i0 (.int .i64 0) 1 Tryd.underlying41 hi hz0 hz1 .i64 .i64 n (by rw [hz2]; omega) (by unfold maxLen; omega) (Nat.le_refl _)
  refine callsIn_of_wp Tryd.func50 rfl trivial ?_ rfl
  simp only [Tryd.ntmps50, List.size_toArray, List.length_cons, List.length_nil, Nat.reduceAdd, Nat.reduceSub, Array.replicate_succ, Array.replicate_zero, List.push_toArray, List.append_toArray, List.nil_append, List.cons_append]
  gi_wp2
  have hsz1 : W.heap.size < w1.heap.size := ho.lt _ rfl |>.2
  have hB1 : Below n₀ W w1 := (Below.refl n₀ W).grown hg hn₀ (fun r e => by cases e)
  have hM0 : MR n₀ W.heap.size L J W 0 w1 := by
    refine ⟨Nat.zero_le _, hJ [] W w1 none h0 hg (fun r e => by cases e), hB1, hsz1, fun j hj => ⟨?_, ho.frozenAt j⟩⟩
    have := ho.cellAt j (by omega)
    rw [this, show (Value.int IntKind.i64 0).cells = #[Value.int .i64 0] from rfl, toList_madeCells_one]
    simp [List.getElem?_replicate, show j < n by omega, Mf.st]
  have HN := Lib.hid hn
  clear hmk hg ho hB1 h0 hn
  gi_loopg [] (Mf.tot L + 1) (fun g wr => ∃ k, g + k = Mf.tot L + 1 ∧ MR n₀ W.heap.size L J W k wr)
  case atStart => exact ⟨0, rfl, hM0⟩
  case round =>
    obtain ⟨k, hgk, hMR⟩ := hrel
    have hbox' := (hMR.2.2.1.cell (p := ⟨Bl, 0, none⟩) hBl).trans hbox
    gi_wp2
    obtain ⟨wo, hwo⟩ : ∃ wo, wo = wr := ⟨_, rfl⟩
    rw [← hwo] at hMR hbox' ⊢
    clear hwo wr
    gi_loopw [4, 11] (fun vb vi wq => ∃ i : Nat, vi = .int .i64 i ∧ IR n₀ L J W k n i vb wq) (fun _ vi _ => n - (intOf vi).toNat)
    case atStart => exact ⟨0, rfl, by omega, rfl, hMR⟩
    case round =>
      obtain ⟨i, rfl, hin, rfl, hM⟩ := hrel
      have hbx := (hM.2.2.1.cell (p := ⟨Bl, 0, none⟩) hBl).trans hbox
      have hLq := hL.below hM.2.2.1
      rcases Nat.lt_or_ge i n with hlt | hge
      · have y1 : decide ((i : Int) < (n : Int)) = true := by simp; omega
        have y2 : (0 : Int) ≤ (i : Int) ∧ (i : Int) < (n : Int) := by omega
        have ca := (hM.2.2.2.2 i (by rw [HN.out]; exact hlt)).1
        have cr := (hLq.2 i (by rw [HN.out]; exact hlt)).1
        have hgl : goInt (Mf.ln L i) = .int .i64 (Mf.ln L i) := by simp [goInt]
        by_cases hlive : Mf.st L k i < Mf.ln L i
        · have y3 : decide (Mf.st L k i < Mf.ln L i) = true := decide_eq_true hlive
          cases hbs : Mf.bst L (Mf.st L k) i with
          | none =>
            have hnx := Mf.bst_first hlive hbs
            have HX : Hid (Mf.bi (Mf.bst L (Mf.st L k) (i + 1)) = (i : Int)) := Lib.hid (by rw [hnx]; rfl)
            rw [show Mf.bi none = -1 from rfl]
            have HI := Lib.hid hM
            clear hnx hbs hM hLq hlive
            gi_wp2
            gi_quiet (fail)
            gi_wp2
            go_roundw
            case rel => exact ⟨i + 1, by go_num, by omega, val_int HX.out.symm, HI.out.drewN hJ _⟩
            case measure => simp [intOf]; omega
          | some bb =>
            obtain ⟨b1, b2, _⟩ := Mf.bst_some hbs
            have hbn : bb < n := by omega
            have ca2 := (hM.2.2.2.2 bb (by rw [HN.out]; exact hbn)).1
            have cr2 := (hLq.2 bb (by rw [HN.out]; exact hbn)).1
            have e1 := (hLq.2 i (by rw [HN.out]; exact hlt)).2
            have e2 := (hLq.2 bb (by rw [HN.out]; exact hbn)).2
            rcases e1 with e1 | ⟨g1, o1, a1, _, e1⟩
            · exact absurd hlive (by unfold Mf.ln; omega)
            rcases e2 with e2 | ⟨g2, o2, a2, _, e2⟩
            · exact absurd b2 (by unfold Mf.ln; omega)
            have v1 := e1 _ hlive
            have v2 := e2 _ b2
            rw [show (Mf.row L i).getD (Mf.st L k i) 0 = Mf.val L (Mf.st L k) i from rfl] at v1
            rw [show (Mf.row L bb).getD (Mf.st L k bb) 0 = Mf.val L (Mf.st L k) bb from rfl] at v2
            rw [a1] at cr
            rw [a2] at cr2
            have z1 : (0 : Int) ≤ (Mf.st L k i : Int) ∧ (Mf.st L k i : Int) < (Mf.ln L i : Int) := by omega
            have z2 : (0 : Int) ≤ (Mf.st L k bb : Int) ∧ (Mf.st L k bb : Int) < (Mf.ln L bb : Int) := by omega
            have z3 : (0 : Int) ≤ (bb : Int) ∧ (bb : Int) < (n : Int) := by omega
            have z4 : decide ((bb : Int) < 0) = false := by simp
            rw [show Mf.bi (some bb) = (bb : Int) from rfl]
            have HI := Lib.hid hM
            by_cases hv : Mf.val L (Mf.st L k) i < Mf.val L (Mf.st L k) bb
            · have HX : Hid (Mf.bi (Mf.bst L (Mf.st L k) (i + 1)) = (i : Int)) := Lib.hid (by rw [Mf.bst_less hlive hbs hv]; rfl)
              generalize Mf.val L (Mf.st L k) i = x1 at *
              generalize Mf.val L (Mf.st L k) bb = x2 at *
              clear hbs hM hLq hlive e1 e2 a1 a2 b1 b2
              have y5 : decide (x1 < x2) = true := decide_eq_true hv
              gi_wp2
              gi_quiet (fail)
              gi_wp2
              go_roundw
              case rel => exact ⟨i + 1, by go_num, by omega, val_int HX.out.symm, HI.out.drewN hJ _⟩
              case measure => simp [intOf]; omega
            · have HX : Hid (Mf.bi (Mf.bst L (Mf.st L k) (i + 1)) = (bb : Int)) := Lib.hid (by rw [Mf.bst_keep hbs hv]; rfl)
              generalize Mf.val L (Mf.st L k) i = x1 at *
              generalize Mf.val L (Mf.st L k) bb = x2 at *
              clear hbs hM hLq hlive e1 e2 a1 a2 b1 b2
              have y5 : decide (x1 < x2) = false := decide_eq_false hv
              gi_wp2
              gi_quiet (fail)
              gi_wp2
              go_roundw
              case rel => exact ⟨i + 1, by go_num, by omega, val_int HX.out.symm, HI.out.drewN hJ _⟩
              case measure => simp [intOf]; omega
        · have y3 : decide (Mf.st L k i < Mf.ln L i) = false := decide_eq_false hlive
          have hsk := Mf.bst_skip hlive
          obtain ⟨x, hx⟩ : ∃ x, Mf.bi (Mf.bst L (Mf.st L k) i) = x := ⟨_, rfl⟩
          have HX : Hid (Mf.bi (Mf.bst L (Mf.st L k) (i + 1)) = x) := Lib.hid (by rw [hsk]; exact hx)
          rw [hx]
          have HI := Lib.hid hM
          clear hx hsk hM hLq hlive
          gi_wp2
          gi_quiet (fail)
          gi_wp2
          go_roundw
          case rel => exact ⟨i + 1, by go_num, by omega, val_int HX.out.symm, HI.out.drewN hJ _⟩
          case measure => simp [intOf]; omega
      · have hi2 : i = L.length := by rw [HN.out]; omega
        have hin2 : i = n := by omega
        have y1 : decide ((i : Int) < (n : Int)) = false := by simp; omega
        have hbk : Mf.bst L (Mf.st L k) i = Mf.bk L k := by rw [hi2]; rfl
        rw [hbk]
        clear hbk hi2
        cases hbs : Mf.bk L k with
        | none =>
          have hkt : k = Mf.tot L := by
            rcases Nat.lt_or_ge k (Mf.tot L) with q | q
            · obtain ⟨b2, h2⟩ := Mf.bk_some q
              rw [h2] at hbs; cases hbs
            · have := hM.1; omega
          rw [show Mf.bi none = -1 from rfl]
          have hj := hM.2.1
          rw [hkt] at hj
          have HJ := Lib.hid hj
          clear hbs hM hLq hkt hj hin2
          gi_wp2
          refine wpIn_region_quiet_lit rfl (by kernel_rfl) (by kernel_rfl) ?_
          repeat (gi_big_quiet_step (fail))
          refine wpQuietIn_step (fun _ _ _ _ => trivial) (fun K hK => ?_)
          go_simp
          refine hK _ ?_
          clear hK K
          repeat (gi_big_quiet_step (fail))
          refine wpQuietIn_nil ?_
          intro _ hw'
          obtain ⟨nq, hw''⟩ := hw'
          subst hw''
          gi_wp2
          exact bodyPost_ret (results_none rfl _ _ _) rfl ⟨⟨_, rfl⟩, hJ _ _ _ none HJ.out (grown_drewN _ _) (fun r e => by cases e)⟩
        | some bb =>
          obtain ⟨b1, b2⟩ := Mf.bk_bd hbs
          have hkt : k < Mf.tot L := by
            rcases Nat.lt_or_ge k (Mf.tot L) with q | q
            · exact q
            · have := hM.1
              have e : k = Mf.tot L := by omega
              rw [e, Mf.bk_none] at hbs; cases hbs
          have hbn : bb < n := by rw [← HN.out]; exact b1
          have ca2 := (hM.2.2.2.2 bb b1).1
          have cf2 := (hM.2.2.2.2 bb b1).2
          have hl9 := hln bb hbn
          have cr2 := (hLq.2 bb b1).1
          rcases (hLq.2 bb b1).2 with e2 | ⟨g2, o2, a2, _, e2⟩
          · exact absurd b2 (by unfold Mf.ln; omega)
          have v2 := e2 _ b2
          rw [show (Mf.row L bb).getD (Mf.st L k bb) 0 = Mf.val L (Mf.st L k) bb from rfl] at v2
          rw [a2] at cr2
          have z2 : (0 : Int) ≤ (Mf.st L k bb : Int) ∧ (Mf.st L k bb : Int) < (Mf.ln L bb : Int) := by omega
          have z3 : (0 : Int) ≤ (bb : Int) ∧ (bb : Int) < (n : Int) := by omega
          have z4 : decide ((bb : Int) < 0) = false := by simp
          obtain ⟨fn, tmps, assign, body, hy, hR⟩ := hY (Mf.upto L k) (Mf.val L (Mf.st L k) bb, (bb : Int)) wr.drew (hJ _ _ _ none hM.2.1 (grown_drewN wr 1) (fun r e => by cases e)) (by rw [Mf.upto_len]; exact hkt) hM.2.2.2.1
          dsimp only at hy
          rw [← Mf.item_some hbs] at hR
          rw [show Mf.bi (some bb) = (bb : Int) from rfl]
          have HI := Lib.hid hM
          have HB := Lib.hid hbs
          generalize Mf.val L (Mf.st L k) bb = x2 at *
          have HR := Lib.hid hR
          have HJ0 := Lib.hid hJ
          clear hbs hM hLq e2 a2 b1 b2 hin2 hR hJ hY hM0 hMR hL
          gi_wp2
          refine wpIn_region_still_tail 16 (by kernel_rfl) (by kernel_rfl) ?_
          simp only [List.take_succ_cons, List.take_zero, List.drop_succ_cons, List.drop_zero]
          repeat still_step
          try refine wpStill_nil ?_
          gi_wp2_with ((with_reducible refine HR.out.mono ?_); rintro e W3 ⟨rfl, hJ3, hk3⟩; have c3 := (World.cell?_of_block (a := ⟨W.heap.size, bb, none⟩) hk3.1).trans ca2; have f3 := (World.frozen?_of_block (a := ⟨W.heap.size, bb, none⟩) hk3.1).trans cf2)
          gi_roundg (gk - 1)
          case measure => omega
          case rel =>
            have hz : wr.heap.size ≤ W3.heap.size := hk3.2.size
            exact ⟨k + 1, by omega, HI.out.step HJ0.out hkt HB.out hn₀ hJ3 ⟨hk3.1, ⟨hk3.2.os, hk3.2.tape, hk3.2.output, hk3.2.size, hk3.2.block⟩⟩ hz⟩
set_option maxRecDepth 20000 in
set_option maxHeartbeats 4000000 in
theorem merged_zero (m l Bl n₀ C : Nat) (A : Option Addr) (hm : 1 ≤ m) (W : World) (J : List (Int × Int) → World → Prop)
    (hJ : ∀ pre W1 W2 row, J pre W1 → W1.grownBy W2 row → (∀ r, row = some r → r = W.heap.size) → J pre W2)
    (hbox : W.cell? ⟨Bl, 0, none⟩ = some (.slice A 0 C)) (hBl : Bl < n₀) (hn₀ : n₀ ≤ W.heap.size) (h0 : J [] W) :
    CallsIn Fence.wide m Tryd.prog 50 #[.func (.yield l) #[] #[], .pointer (some ⟨Bl, 0, none⟩)] W fun e W' => (∃ v, e = .returned v) ∧ J [] W' := by
  have hgi : goInt 0 = .int .i64 0 := by simp [goInt]
  obtain ⟨i0, hi, hz0, hz1, hz2⟩ := info_parts info3
  obtain ⟨w1, hmk, ho, hg⟩ := run_make_full (P := Tryd.prog) W W.heap.size 41 3 i0 (.int .i64 0) 1 Tryd.underlying41 hi hz0 hz1 .i64 .i64 0 (by rw [hz2]; omega) (by unfold maxLen; omega) (Nat.le_refl _)
  have hmk' : (Instr.makeSlice 41 (.int .i64 0) (.int .i64 0)).run Tryd.prog W = .ok (.slice (some ⟨W.heap.size, 0, none⟩) 0 0) w1 := hmk
  refine callsIn_of_wp Tryd.func50 rfl trivial ?_ rfl
  simp only [Tryd.ntmps50, List.size_toArray, List.length_cons, List.length_nil, Nat.reduceAdd, Nat.reduceSub, Array.replicate_succ, Array.replicate_zero, List.push_toArray, List.append_toArray, List.nil_append, List.cons_append]
  have hB1 : Below n₀ W w1 := (Below.refl n₀ W).grown hg hn₀ (fun r e => by cases e)
  have hj1 := hJ [] W w1 none h0 hg (fun r e => by cases e)
  clear hmk
  gi_wp2
  clear hmk' hg ho h0
  gi_loopg [] 1 (fun g wr => J [] wr ∧ Below n₀ W wr)
  case atStart => exact ⟨hj1, hB1⟩
  case round =>
    obtain ⟨hj, hbl⟩ := hrel
    have hbox' := (hbl.cell (p := ⟨Bl, 0, none⟩) hBl).trans hbox
    gi_wp2
    obtain ⟨wo, hwo⟩ : ∃ wo, wo = wr := ⟨_, rfl⟩
    rw [← hwo] at hj hbl hbox' ⊢
    clear hwo wr
    gi_loopw [4, 11] (fun vb vi wq => vi = .int .i64 0 ∧ vb = .int .i64 (-1) ∧ J [] wq) (fun _ vi _ => 0)
    case atStart => exact ⟨rfl, rfl, hj⟩
    case round =>
      obtain ⟨rfl, rfl, hjq⟩ := hrel
      gi_wp2
      refine wpIn_region_quiet_lit rfl (by kernel_rfl) (by kernel_rfl) ?_
      repeat (gi_big_quiet_step (fail))
      refine wpQuietIn_step (fun _ _ _ _ => trivial) (fun K hK => ?_)
      go_simp
      refine hK _ ?_
      clear hK K
      repeat (gi_big_quiet_step (fail))
      refine wpQuietIn_nil ?_
      intro _ hw'
      obtain ⟨nq, hw''⟩ := hw'
      subst hw''
      gi_wp2
      exact bodyPost_ret (results_none rfl _ _ _) rfl ⟨⟨_, rfl⟩, hJ _ _ _ none hjq (grown_drewN _ _) (fun r e => by cases e)⟩
end Go.Proofs.YtadfdkhgjjehnaaDoor
