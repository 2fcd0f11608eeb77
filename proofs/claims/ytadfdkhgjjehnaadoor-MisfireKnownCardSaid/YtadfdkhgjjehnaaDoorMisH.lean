/- The contract of the document's Order. -/
import Derived.Test.YtadfdkhgjjehnaaDoorMisG
import Derived.StillTail
import Derived.StillTailTactics
namespace Go.Proofs.YtadfdkhgjjehnaaDoor
open Go.RowKit Go.Shelf
set_option linter.unusedVariables false
set_option linter.unusedSimpArgs false
/-- between two rounds -/
def RR (w : World) (L : List (List Int)) (R k : Nat) (v : Value) (wr : World) : Prop :=
  k ≤ Mf.tot L ∧ Q w wr ∧ R < wr.heap.size ∧ wr.ownsRow (R + 1) 42 2 v k (pcs (Mf.upto L k)) ∧ ∀ j, j < L.length → wr.cell? ⟨R, j, none⟩ = some (.int .i64 (Mf.st L k j)) ∧ wr.frozen? ⟨R, j, none⟩ = false
theorem RR.drewN {w wr : World} {L : List (List Int)} {R k : Nat} {v : Value} (h : RR w L R k v wr) (m : Nat) : RR w L R k v (wr.drewN m) := by
  obtain ⟨h1, h2, h3, h4, h5⟩ := h
  exact ⟨h1, h2.drewN m, h3, h4.kept (grown_drewN wr m) (by cases v.ownBlock <;> simp), h5⟩
theorem RR.slice {w wr : World} {L : List (List Int)} {R k : Nat} {v : Value} (h : RR w L R k v wr) : ∃ a c, v = .slice a k c := by
  rcases h.2.2.2.1.2 with ⟨rfl, rfl⟩ | ⟨g, cap, _, rfl, _⟩
  · exact ⟨_, _, rfl⟩
  · exact ⟨_, _, rfl⟩
/-- one round on: what append left, and the count -/
theorem RR.step {w wr w1 : World} {L : List (List Int)} {R k bb : Nat} {v v' : Value} {o : Obj} (h : RR w L R k v wr) (hR : w.heap.size ≤ R) (hk : k < Mf.tot L) (hb : Mf.bk L k = some bb)
    (hown : w1.ownsRow (R + 1) 42 2 v' (k + 1) (pcs (Mf.upto L k) ++ [.int .i64 (Mf.item L k).1, .int .i64 (Mf.item L k).2])) (hgrow : (wr.alloc o).grownBy w1 v.ownBlock) :
    w1.cell? ⟨R, bb, none⟩ = some (.int .i64 (Mf.st L k bb)) ∧ w1.frozen? ⟨R, bb, none⟩ = false ∧ RR w L R (k + 1) v' (w1.setCell ⟨R, bb, none⟩ (.int .i64 ((Mf.st L k bb : Int) + 1))) := by
  obtain ⟨h1, h2, h3, h4, h5⟩ := h
  have hbb := (Mf.bk_bd hb).1
  have hRv : some R ≠ v.ownBlock := fun e => by have := (h4.lt R e.symm).1; omega
  have hRb : w1.heap[R]? = wr.heap[R]? := (hgrow.block R (by simp; omega) hRv).trans (Below.heap_alloc _ _ R h3)
  have hc : ∀ j, j < L.length → w1.cell? ⟨R, j, none⟩ = some (.int .i64 (Mf.st L k j)) ∧ w1.frozen? ⟨R, j, none⟩ = false := fun j hj =>
    ⟨(World.cell?_of_block (a := ⟨R, j, none⟩) hRb).trans (h5 j hj).1, (World.frozen?_of_block (a := ⟨R, j, none⟩) hRb).trans (h5 j hj).2⟩
  have hq1 : Q w w1 := (h2.alloc o).grown hgrow (fun g hg => by have := (h4.lt g hg).1; omega)
  have hz := hgrow.size
  rw [World.size_alloc] at hz
  refine ⟨(hc bb hbb).1, (hc bb hbb).2, hk, hq1.setCell (p := ⟨R, bb, none⟩) hR _, by rw [World.size_setCell]; omega, ?_, fun j hj => ?_⟩
  · rw [Mf.upto_succ, pcs_app]
    refine hown.kept (grown_set w1 ⟨R, bb, none⟩ _) ?_
    cases hvb : v'.ownBlock with
    | none => exact Or.inl rfl
    | some g =>
      right; intro e; cases e
      have := (hown.lt R hvb).1; omega
  · rw [World.frozen?_setCell]
    refine ⟨?_, (hc j hj).2⟩
    by_cases e : j = bb
    · subst e
      rw [World.cell?_setCell_same _ _ _ (hc j hj).1, Mf.st_up hb, if_pos rfl]
      simp
    · rw [World.cell?_setCell_other _ _ _ _ (by simp; try exact e), (hc j hj).1, Mf.st_up hb, if_neg e]
/-- the inner loop's relation -/
def IH (w : World) (L : List (List Int)) (R k n i : Nat) (v vb : Value) (wr : World) : Prop :=
  i ≤ n ∧ vb = .int .i64 (Mf.bi (Mf.bst L (Mf.st L k) i)) ∧ RR w L R k v wr
/-- the length of a slice -/
def lenOf : Value → Nat
  | .slice _ n _ => n
  | _ => 0
set_option maxRecDepth 20000 in
set_option maxHeartbeats 4000000 in
theorem rorder_any (a : Option Addr) (L : List (List Int)) (n c : Nat) (hn : L.length = n) (hn64 : n ≤ 1000000) (hln : ∀ j, j < n → Mf.ln L j ≤ 1000000000) (w : World) (h : Lm a L w) :
    Calls Tryd.prog 23 #[.slice a n c] w (OrdPost L w) := by
  have hgi : goInt n = .int .i64 n := by simp [goInt]
  by_cases hm : 64 < n
  · have y1 : decide ((64 : Int) < (n : Int)) = true := by simp; omega
    have he := Mf.ordE_many (L := L) (by rw [hn]; exact hm)
    clear h
    go_enter Tryd.func23, Tryd.ntmps23
    go_wp2_with fail
    exact bodyPost_ret (v := .tuple #[.slice none 0 0, .int .i64 12]) (by simp [results, Tryd.results23, go_sem]) rfl (OrdPost.err he (by decide) (Q.refl _))
  · have y1 : decide ((64 : Int) < (n : Int)) = false := by simp; omega
    have HL := Lib.hid h
    have kl := fun (w2 : World) (ad : Option Addr) (cp k : Nat) (hk : k < n) (g : Sl ad (Mf.row L k) w2) => rlist_any ad (Mf.row L k) (Mf.ln L k) cp rfl (hln k hk) w2 g
    have HN := Lib.hid hn
    have HZ := Lib.hid hln
    obtain ⟨i0, hi, hz0, hz1, hz2⟩ := info_parts info3
    obtain ⟨i42, hi42, hy0, hy1, hy2⟩ := info_parts info42
    clear h hn hln
    go_enter Tryd.func23, Tryd.ntmps23
    go_wp2_with fail
    go_loopw [4, 5] (fun vs vi wr => ∃ k : Nat, vi = .int .i64 k ∧ vs = .int .i64 (Mf.sumTo (Mf.ln L) k) ∧ k ≤ n ∧ Q w wr ∧ Mf.errTo L k = 0) (fun _ vi _ => n - (intOf vi).toNat)
    case atStart => exact ⟨0, rfl, rfl, by omega, Q.refl _, rfl⟩
    case round =>
      obtain ⟨k, rfl, rfl, hk, hq, he⟩ := hrel
      have HE := Lib.hid he; clear he
      rcases Nat.lt_or_ge k n with hlt | hge
      · have y2 : decide ((k : Int) < (n : Int)) = true := by simp; omega
        obtain ⟨b, off, hp⟩ := (HL.out.later hq).parts
        obtain ⟨rfl, ad, cp, hc, hs⟩ := hp k (by rw [HN.out]; exact hlt)
        have y3 : (0 : Int) ≤ (k : Int) ∧ (k : Int) < (n : Int) := by omega
        have hgl : goInt (Mf.ln L k) = .int .i64 (Mf.ln L k) := by simp [goInt]
        have hl1 := HZ.out k hlt
        have hsum : Mf.sumTo (Mf.ln L) k ≤ k * 1000000000 := Mf.sumTo_bd (fun j hj => HZ.out j (by omega))
        have hsum2 : (0 : Int) ≤ (Mf.sumTo (Mf.ln L) k : Int) + Mf.ln L k ∧ (Mf.sumTo (Mf.ln L) k : Int) + Mf.ln L k ≤ 1000000000000000 := by omega
        have hstep : Hid (Mf.sumTo (Mf.ln L) (k + 1) = Mf.sumTo (Mf.ln L) k + Mf.ln L k) := Lib.hid rfl
        have hk1 := kl wr ad cp k hlt hs
        have hoe : Hid (Mf.listE (Mf.row L k) ≠ 0 → Mf.ordE L = Mf.listE (Mf.row L k)) := Lib.hid (fun q => Mf.ordE_err (by rw [HN.out]; omega) (by rw [HN.out]; exact hlt) HE.out q)
        have hne : Hid (Mf.errTo L (k + 1) = Mf.listE (Mf.row L k)) := Lib.hid (Mf.errTo_ok HE.out)
        generalize Mf.listE (Mf.row L k) = x at *
        generalize hgs : Mf.sumTo (Mf.ln L) k = s at *
        generalize hgll : Mf.ln L k = ll at *
        have HGS := Lib.hid hgs; have HGL := Lib.hid hgll
        have HP := Lib.hid hp
        have hbl : b < wr.heap.size := by
          rcases HL.out.later hq with q | ⟨b', off', ad', cp', e, q⟩
          · have := HN.out; omega
          · cases e; exact q.1
        clear hgs hgll kl hp
        by_cases hx : x = 0
        · subst hx
          clear hoe
          go_wp2_with (go_at_call 35; refine hk1.mono ?_; rintro e w1 ⟨rfl, hq1⟩; have hc1 := (hq1.cell (p := ⟨b, off + k, none⟩) hbl).trans hc)
          go_roundw
          case rel => exact ⟨k + 1, by go_num, by rw [hstep.out]; simp, by omega, hq.trans hq1, hne.out⟩
          case measure => simp [intOf]; omega
        · have y4 : (x != 0) = true := bne_t hx
          go_wp2_with (go_at_call 35; refine hk1.mono ?_; rintro e w1 ⟨rfl, hq1⟩)
          exact bodyPost_ret (v := .tuple #[.slice none 0 0, .int .i64 x]) (by simp [results, Tryd.results23, go_sem]) rfl (OrdPost.err (hoe.out hx) hx (hq.trans hq1))
      · obtain rfl : k = n := by omega
        have y2 : decide ((k : Int) < (k : Int)) = false := by simp
        have htt : Mf.sumTo (Mf.ln L) k = Mf.tot L := by unfold Mf.tot; rw [HN.out]
        rw [htt]
        clear kl htt
        have he0 : Mf.errTo L L.length = 0 := by rw [HN.out]; exact HE.out
        by_cases hb : 100000 < Mf.tot L
        · have he := Mf.ordE_big (L := L) (by rw [HN.out]; omega) he0 hb
          have HO := Lib.hid he
          have y3 : decide ((100000 : Int) < (Mf.tot L : Int)) = true := by simp; omega
          clear he he0
          go_wp2_with fail
          exact bodyPost_ret (v := .tuple #[.slice none 0 0, .int .i64 12]) (by simp [results, Tryd.results23, go_sem]) rfl (OrdPost.err HO.out (by decide) hq)
        · have he := Mf.ordE_ok (L := L) (by rw [HN.out]; omega) he0 (by omega)
          have HO := Lib.hid he
          have y3 : decide ((100000 : Int) < (Mf.tot L : Int)) = false := by simp; omega
          clear he he0
          obtain ⟨w1, hmk, ho, hg⟩ := run_make_full (P := Tryd.prog) wr wr.heap.size 41 3 i0 (.int .i64 0) 1 Tryd.underlying41 hi hz0 hz1 .i64 .i64 k (by rw [hz2]; omega) (by unfold maxLen; omega) (Nat.le_refl _)
          have hsz1 : wr.heap.size < w1.heap.size := ho.lt _ rfl |>.2
          have hRR : RR w L wr.heap.size 0 (.slice none 0 0) w1 := by
            refine ⟨Nat.zero_le _, hq.grown hg (fun r e => by cases e), hsz1, World.ownsRow_nil _ _ _ _, fun j hj => ⟨?_, ho.frozenAt j⟩⟩
            rw [HN.out] at hj
            have := ho.cellAt j (by omega)
            rw [this, show (Value.int IntKind.i64 0).cells = #[Value.int .i64 0] from rfl, toList_madeCells_one]
            simp [List.getElem?_replicate, show j < k by omega, Mf.st]
          have HRR := Lib.hid hRR
          have hqs := hq.size
          have hLe := Lib.hid (HL.out.later hq)
          have hq2 := Lib.hid hq
          obtain ⟨R, hRe⟩ : ∃ R, wr.heap.size = R := ⟨_, rfl⟩
          rw [hRe] at hmk hsz1 HRR hqs
          have hRw : Hid (w.heap.size ≤ R) := Lib.hid hqs
          clear hRR ho hg hq hqs hsz1
          go_wp2_with fail
          clear hmk
          go_loopw [7] (fun va wr => ∃ j : Nat, RR w L R j va wr) (fun va _ => Mf.tot L - (lenOf va))
          case atStart => exact ⟨0, HRR.out⟩
          case round =>
            obtain ⟨j, hr⟩ := hrel
            obtain ⟨ao, co, rfl⟩ := hr.slice
            have hgj : goInt j = .int .i64 j := by simp [goInt]
            have hb2 : Mf.tot L ≤ 100000 := by omega
            rcases Nat.lt_or_ge j (Mf.tot L) with hjt | hjt
            · have y4 : decide ((j : Int) < (Mf.tot L : Int)) = true := by simp; omega
              have HR0 := Lib.hid hr
              clear hr HRR
              go_wp2_with fail
              go_loopw [9, 10] (fun vb vi wq => ∃ i : Nat, vi = .int .i64 i ∧ IH w L R j k i (.slice ao j co) vb wq) (fun _ vi _ => k - (intOf vi).toNat)
              case atStart => exact ⟨0, rfl, by omega, rfl, HR0.out⟩
              case round =>
                obtain ⟨i, rfl, hin, rfl, hM⟩ := hrel
                obtain ⟨b, off, hp⟩ := (HL.out.later hM.2.1).parts
                rcases Nat.lt_or_ge i k with hlt | hge2
                · have z1 : decide ((i : Int) < (k : Int)) = true := by simp; omega
                  have z2 : (0 : Int) ≤ (i : Int) ∧ (i : Int) < (k : Int) := by omega
                  have ca := (hM.2.2.2.2 i (by rw [HN.out]; exact hlt)).1
                  obtain ⟨rfl, ad, cp, cr, e1⟩ := hp i (by rw [HN.out]; exact hlt)
                  have hgl : goInt (Mf.ln L i) = .int .i64 (Mf.ln L i) := by simp [goInt]
                  by_cases hlive : Mf.st L j i < Mf.ln L i
                  · have z3 : decide (Mf.st L j i < Mf.ln L i) = true := decide_eq_true hlive
                    have z4 : decide ((Mf.st L j i : Int) < (Mf.ln L i : Int)) = true := by simp; exact hlive
                    cases hbs : Mf.bst L (Mf.st L j) i with
                    | none =>
                      have hnx := Mf.bst_first hlive hbs
                      have HX : Hid (Mf.bi (Mf.bst L (Mf.st L j) (i + 1)) = (i : Int)) := Lib.hid (by rw [hnx]; rfl)
                      rw [show Mf.bi none = -1 from rfl]
                      have HI := Lib.hid hM
                      have HP := Lib.hid hp
                      clear hnx hbs hM hlive hp
                      go_wp2_with fail
                      go_quiet (fail)
                      go_wp2_with fail
                      go_roundw
                      case rel => exact ⟨i + 1, by go_num, by omega, val_int HX.out.symm, HI.out.drewN _⟩
                      case measure => simp [intOf]; omega
                    | some bb =>
                      obtain ⟨b1, b2, _⟩ := Mf.bst_some hbs
                      have hbn : bb < k := by omega
                      have ca2 := (hM.2.2.2.2 bb (by rw [HN.out]; exact hbn)).1
                      obtain ⟨_, ad2, cp2, cr2, e2⟩ := hp bb (by rw [HN.out]; exact hbn)
                      rcases e1 with e1 | ⟨g1, o1, a1, _, e1⟩
                      · exact absurd hlive (by unfold Mf.ln; omega)
                      rcases e2 with e2 | ⟨g2, o2, a2, _, e2⟩
                      · exact absurd b2 (by unfold Mf.ln; omega)
                      have v1 := e1 _ hlive
                      have v2 := e2 _ b2
                      rw [show (Mf.row L i).getD (Mf.st L j i) 0 = Mf.val L (Mf.st L j) i from rfl] at v1
                      rw [show (Mf.row L bb).getD (Mf.st L j bb) 0 = Mf.val L (Mf.st L j) bb from rfl] at v2
                      rw [a1] at cr
                      rw [a2] at cr2
                      have x1 : (0 : Int) ≤ (Mf.st L j i : Int) ∧ (Mf.st L j i : Int) < (Mf.ln L i : Int) := by omega
                      have x2 : (0 : Int) ≤ (Mf.st L j bb : Int) ∧ (Mf.st L j bb : Int) < (Mf.ln L bb : Int) := by omega
                      have x3 : (0 : Int) ≤ (bb : Int) ∧ (bb : Int) < (k : Int) := by omega
                      have x4 : decide ((bb : Int) < 0) = false := by simp
                      rw [show Mf.bi (some bb) = (bb : Int) from rfl]
                      have HI := Lib.hid hM
                      have HP := Lib.hid hp
                      by_cases hv : Mf.val L (Mf.st L j) i < Mf.val L (Mf.st L j) bb
                      · have HX : Hid (Mf.bi (Mf.bst L (Mf.st L j) (i + 1)) = (i : Int)) := Lib.hid (by rw [Mf.bst_less hlive hbs hv]; rfl)
                        generalize Mf.val L (Mf.st L j) i = q1 at *
                        generalize Mf.val L (Mf.st L j) bb = q2 at *
                        clear hbs hM hlive e1 e2 a1 a2 b1 b2 hp
                        have y5 : decide (q1 < q2) = true := decide_eq_true hv
                        go_wp2_with fail
                        go_quiet (fail)
                        go_wp2_with fail
                        go_roundw
                        case rel => exact ⟨i + 1, by go_num, by omega, val_int HX.out.symm, HI.out.drewN _⟩
                        case measure => simp [intOf]; omega
                      · have HX : Hid (Mf.bi (Mf.bst L (Mf.st L j) (i + 1)) = (bb : Int)) := Lib.hid (by rw [Mf.bst_keep hbs hv]; rfl)
                        generalize Mf.val L (Mf.st L j) i = q1 at *
                        generalize Mf.val L (Mf.st L j) bb = q2 at *
                        clear hbs hM hlive e1 e2 a1 a2 b1 b2 hp
                        have y5 : decide (q1 < q2) = false := decide_eq_false hv
                        go_wp2_with fail
                        go_quiet (fail)
                        go_wp2_with fail
                        go_roundw
                        case rel => exact ⟨i + 1, by go_num, by omega, val_int HX.out.symm, HI.out.drewN _⟩
                        case measure => simp [intOf]; omega
                  · have z3 : decide (Mf.st L j i < Mf.ln L i) = false := decide_eq_false hlive
                    have z4 : decide ((Mf.st L j i : Int) < (Mf.ln L i : Int)) = false := by simp; omega
                    have hsk := Mf.bst_skip hlive
                    obtain ⟨x, hx⟩ : ∃ x, Mf.bi (Mf.bst L (Mf.st L j) i) = x := ⟨_, rfl⟩
                    have HX : Hid (Mf.bi (Mf.bst L (Mf.st L j) (i + 1)) = x) := Lib.hid (by rw [hsk]; exact hx)
                    rw [hx]
                    have HI := Lib.hid hM
                    have HP := Lib.hid hp
                    clear hx hsk hM hlive hp
                    go_wp2_with fail
                    go_quiet (fail)
                    go_wp2_with fail
                    go_roundw
                    case rel => exact ⟨i + 1, by go_num, by omega, val_int HX.out.symm, HI.out.drewN _⟩
                    case measure => simp [intOf]; omega
                · have hi2 : i = L.length := by rw [HN.out]; omega
                  obtain rfl : i = k := by omega
                  have z1 : decide ((i : Int) < (i : Int)) = false := by simp
                  have hbk : Mf.bst L (Mf.st L j) i = Mf.bk L j := by rw [hi2]; rfl
                  rw [hbk]
                  clear hbk hi2
                  obtain ⟨bb, hbs⟩ := Mf.bk_some hjt
                  rw [hbs]
                  obtain ⟨b1, b2⟩ := Mf.bk_bd hbs
                  have hbn : bb < i := by rw [← HN.out]; exact b1
                  have ca2 := (hM.2.2.2.2 bb b1).1
                  have cf2 := (hM.2.2.2.2 bb b1).2
                  have hl9 := HZ.out bb hbn
                  rcases HL.out with hL0 | ⟨b, off, ad, cp, rfl, hLb⟩
                  · exact absurd hbn (by have := HN.out; omega)
                  have hLq := hLb.below hM.2.1
                  have hbl := hLb.1
                  obtain ⟨cr2, e2⟩ := hLq.2 bb b1
                  rcases e2 with e2 | ⟨g2, o2, a2, hg2, e2⟩
                  · exact absurd b2 (by unfold Mf.ln; omega)
                  have v2 := e2 _ b2
                  rw [show (Mf.row L bb).getD (Mf.st L j bb) 0 = Mf.val L (Mf.st L j) bb from rfl] at v2
                  rw [a2] at cr2
                  have x2 : (0 : Int) ≤ (Mf.st L j bb : Int) ∧ (Mf.st L j bb : Int) < (Mf.ln L bb : Int) := by omega
                  have x3 : (0 : Int) ≤ (bb : Int) ∧ (bb : Int) < (i : Int) := by omega
                  have x4 : decide ((bb : Int) < 0) = false := by simp
                  rw [show Mf.bi (some bb) = (bb : Int) from rfl]
                  have hit := Mf.item_some hbs
                  have HI := Lib.hid hM
                  have HB := Lib.hid hbs
                  have HT := Lib.hid hit
                  have HJT := Lib.hid hjt
                  have HQ := Lib.hid hM.2.1
                  have hRl := hM.2.2.1
                  generalize Mf.val L (Mf.st L j) bb = q2 at *
                  obtain ⟨xs0, hxs0⟩ : ∃ x, pcs (Mf.upto L j) = x := ⟨_, rfl⟩
                  have how : wr.drew.ownsRow (R + 1) 42 2 (.slice ao j co) j xs0 := by rw [← hxs0]; exact (hM.drewN 1).2.2.2.1
                  have HW := Lib.hid how
                  have HXS := Lib.hid hxs0
                  have HLQ := Lib.hid hLq
                  have hRw2 := hRw.out
                  have t1 : R < wr.drew.heap.size := hRl
                  have t2 : b < wr.drew.heap.size := by have := hM.2.1.size; show b < wr.heap.size; omega
                  have t3 : g2 < wr.drew.heap.size := by have := hM.2.1.size; show g2 < wr.heap.size; omega
                  have hgb : ∀ (o : Obj) (w9 : World), (wr.drew.alloc o).grownBy w9 (Value.slice ao j co).ownBlock → ∀ p : Addr, p.block ≤ R → w9.cell? p = wr.cell? p := by
                    intro o w9 hg p hp'
                    have hz : wr.drew.heap.size = wr.heap.size := rfl
                    refine World.cell?_of_block ?_
                    refine (hg.block p.block (by rw [World.size_alloc]; omega) (fun e => ?_)).trans (Below.heap_alloc wr.drew _ _ (by omega))
                    have := (how.lt p.block e.symm).1
                    omega
                  have HGB := Lib.hid hgb
                  clear hbs hM e2 a2 b1 b2 hp hit hLq hLb how hxs0 hgb HL hLe
                  go_wp2_with fail
                  go_region_held3 (fun w' => w'.cell? ⟨b, off + bb, none⟩ = some (.slice (some ⟨g2, o2, none⟩) (Mf.ln L bb) (cp bb)) ∧ w'.cell? ⟨R, bb, none⟩ = some (.int .i64 (Mf.st L j bb)) ∧ w'.cell? ⟨g2, o2 + Mf.st L j bb, none⟩ = some (.int .i64 q2)) (go_keep)
                    (first
                    | (rw [if_pos (by rfl)]; refine wp_append_own _ _ _ 34 rfl (R + 1) 42 i42 (.agg #[.int .i64 0, .int .i64 0]) 2 16 Tryd.underlying34 hi42 hy0 hy1 hy2 rfl (by decide) (.slice ao j co) j xs0 rfl (HW.out.alloc _) ⟨wr.heap.size, 0, none⟩ 1 1 [.int .i64 q2, .int .i64 bb] rfl rfl (two_new wr.drew _ _ _) (by simp [Value.oneCell']) (by unfold maxLen; omega) (by omega) (by show R + 1 ≤ (wr.alloc _).heap.size; rw [World.size_alloc]; omega) ?_; intro v' w9 hown hgrow hiff; obtain ⟨g', cap', rfl⟩ := ownsRow_succ hown
                       have k1 := (HGB.out _ w9 hgrow ⟨b, off + bb, none⟩ (by show b ≤ R; omega)).trans cr2
                       have k2 := (HGB.out _ w9 hgrow ⟨R, bb, none⟩ (Nat.le_refl _)).trans ca2
                       have k3 := (HGB.out _ w9 hgrow ⟨g2, o2 + Mf.st L j bb, none⟩ (by show g2 ≤ R; omega)).trans v2
                       obtain ⟨cb, fb, hnx⟩ := RR.step (HI.out.drewN 1) hRw.out HJT.out HB.out (by rw [HT.out, HXS.out]; exact hown) hgrow; clear hown hgrow hiff))
                  have HN2 := Lib.hid hnx
                  clear hnx k1 k3
                  go_wp2_with fail
                  go_roundw
                  case rel => exact ⟨j + 1, HN2.out⟩
                  case measure => simp [lenOf]; omega
            · have hjj : j = Mf.tot L := by have := hr.1; omega
              subst hjj
              have y4 : decide ((Mf.tot L : Int) < (Mf.tot L : Int)) = false := by simp
              go_wp2_with fail
              refine bodyPost_ret (v := .tuple #[.slice ao (Mf.tot L) co, .int .i64 0]) (by simp [results, Tryd.results23, go_sem]) rfl ⟨_, by rw [HO.out], ?_, hr.2.1⟩
              rw [Mf.ordM_ok HO.out, Mf.mrg_len]
              exact ownsRow_base hr.2.2.2.1 (by have := hRw.out; omega)
end Go.Proofs.YtadfdkhgjjehnaaDoor
