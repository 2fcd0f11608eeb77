/- The walk of the law Merges. -/
import Derived.Test.YtadfdkhgjjehnaaDoorLawF
namespace Go.Proofs.YtadfdkhgjjehnaaDoor
open Go.RowKit
set_option linter.unusedVariables false
set_option linter.unusedSimpArgs false
theorem upto_get (L : List (List Int)) (t i : Nat) (h : i < t) : (Mf.upto L t).getD i (0, 0) = Mf.item L i := by
  simp [Mf.upto, List.getD, h]
theorem incs_of {L : List (List Int)} (h : Mf.ordE L = 0) : Mf.Incs L := by
  obtain ⟨_, h2, _⟩ := Mf.ordE_zero h
  intro i hi
  exact (Mf.listE_zero (Mf.errTo_zero h2 i hi)).2.2
/-- between two rounds -/
def MM (L : List (List Int)) (R k : Nat) (w1 wr : World) : Prop :=
  k ≤ Mf.tot L ∧ Q w1 wr ∧ R < wr.heap.size ∧ ∀ j, j < L.length → wr.cell? ⟨R, j, none⟩ = some (.int .i64 (Mf.st L k j)) ∧ wr.frozen? ⟨R, j, none⟩ = false
theorem MM.drewN {L : List (List Int)} {R k : Nat} {w1 wr : World} (h : MM L R k w1 wr) (n : Nat) : MM L R k w1 (wr.drewN n) := by
  obtain ⟨h1, h2, h3, h4⟩ := h
  exact ⟨h1, h2.drewN n, h3, fun j hj => ⟨(h4 j hj).1, (h4 j hj).2⟩⟩
theorem MM.step {L : List (List Int)} {R k b : Nat} {w1 wr : World} (h : MM L R k w1 wr) (hR : w1.heap.size ≤ R) (hk : k < Mf.tot L) (hb : Mf.bk L k = some b) :
    MM L R (k + 1) w1 (wr.setCell ⟨R, b, none⟩ (.int .i64 ((Mf.st L k b : Int) + 1))) := by
  obtain ⟨h1, h2, h3, h4⟩ := h
  have hbb := (Mf.bk_bd hb).1
  refine ⟨hk, h2.setCell (p := ⟨R, b, none⟩) hR _, by rw [World.size_setCell]; exact h3, fun j hj => ?_⟩
  rw [World.frozen?_setCell]
  refine ⟨?_, (h4 j hj).2⟩
  by_cases e : j = b
  · subst e
    rw [World.cell?_setCell_same _ _ _ (h4 j hj).1, Mf.st_up hb, if_pos rfl]
    simp
  · rw [World.cell?_setCell_other _ _ _ _ (by simp; try exact e), (h4 j hj).1, Mf.st_up hb, if_neg e]
set_option maxRecDepth 20000 in
set_option maxHeartbeats 4000000 in
theorem merges_walk (a : Option Addr) (n c : Nat) (L : List (List Int)) (w : World) (hM : IsMat w a n c L) (hT : Tab w) :
    Calls Tryd.prog 7 #[.slice a n c] w fun e w' => e = .returned (.bool true) ∧ Q w w' := by
  obtain ⟨hn, hc, hx, hln, hL⟩ := hM
  have hgi : goInt n = .int .i64 n := by simp [goInt]
  by_cases hbig : 64 < n
  · have y1 : decide ((64 : Int) < (n : Int)) = true := by simp; omega
    clear hL hn hln
    go_enter Tryd.func7, Tryd.ntmps7
    go_wp2_with (go_at_call 14; refine (works_any _ hT).mono ?_; rintro e w9 ⟨rfl, hq9⟩)
    go_ret
    exact ⟨rfl, by (repeat (first | exact Q.refl _ | assumption | refine Q.alloc ?_ _ | refine Q.drew ?_ | refine Q.drewN ?_ _ | refine Q.trans ?_ (by assumption)))⟩
  · have y1 : decide ((64 : Int) < (n : Int)) = false := by simp; omega
    obtain ⟨b, off, hp⟩ := hL.parts
    have HL := Lib.hid hL; have HN := Lib.hid hn; have HP := Lib.hid hp; have HZ := Lib.hid hln
    clear hL hn hp hln
    go_enter Tryd.func7, Tryd.ntmps7
    go_wp2_with fail
    go_loopw [3, 4] (fun vs vi wr => ∃ k : Nat, vi = .int .i64 k ∧ vs = .int .i64 (Mf.sumTo (Mf.ln L) k) ∧ k ≤ n ∧ wr = w ∧ ∀ j, j < k → Mf.ln L j ≤ 100) (fun _ vi _ => n - (intOf vi).toNat)
    case atStart => exact ⟨0, rfl, rfl, by omega, rfl, fun j hj => by omega⟩
    case round =>
      obtain ⟨k, rfl, rfl, hk, rfl, he⟩ := hrel
      have HE := Lib.hid he; clear he
      have hsum : Mf.sumTo (Mf.ln L) k ≤ k * 100 := Mf.sumTo_bd (fun j hj => HE.out j hj)
      rcases Nat.lt_or_ge k n with hlt | hge
      · have y2 : decide ((k : Int) < (n : Int)) = true := by simp; omega
        obtain ⟨rfl, ad, cp, hc, hs⟩ := HP.out k (by rw [HN.out]; exact hlt)
        have y3 : (0 : Int) ≤ (k : Int) ∧ (k : Int) < (n : Int) := by omega
        have hgl : goInt (Mf.ln L k) = .int .i64 (Mf.ln L k) := by simp [goInt]
        have hstep : Hid (Mf.sumTo (Mf.ln L) (k + 1) = Mf.sumTo (Mf.ln L) k + Mf.ln L k) := Lib.hid rfl
        have hl1 : Mf.ln L k ≤ 9223372036854775807 := HZ.out k hlt
        generalize hgs : Mf.sumTo (Mf.ln L) k = s at *
        generalize hgll : Mf.ln L k = ll at *
        have HGS := Lib.hid hgs; have HGL := Lib.hid hgll
        clear hgs hgll hs
        by_cases hx3 : 100 < ll
        · have y4 : decide ((100 : Int) < (ll : Int)) = true := by simp; omega
          clear hl1
          go_wp2_with (go_at_call 14; refine (works_any _ hT).mono ?_; rintro e w9 ⟨rfl, hq9⟩)
          go_ret
          exact ⟨rfl, by (repeat (first | exact Q.refl _ | assumption | refine Q.alloc ?_ _ | refine Q.drew ?_ | refine Q.drewN ?_ _ | refine Q.trans ?_ (by assumption)))⟩
        · have y4 : decide ((100 : Int) < (ll : Int)) = false := by simp; omega
          have hsum2 : (0 : Int) ≤ (s : Int) + (ll : Int) ∧ (s : Int) + (ll : Int) ≤ 100000 := by omega
          clear hl1
          go_wp2_with fail
          go_roundw
          case rel =>
            refine ⟨k + 1, by go_num, by rw [hstep.out]; simp, by omega, by first | rfl | trivial, fun j hj => ?_⟩
            rcases Nat.lt_or_ge j k with q | q
            · exact HE.out j q
            · obtain rfl : j = k := by omega
              rw [HGL.out]; omega
          case measure => simp [intOf]; omega
      · obtain rfl : n = k := by omega
        have y2 : decide ((n : Int) < (n : Int)) = false := by simp
        have htt : Mf.sumTo (Mf.ln L) n = Mf.tot L := by unfold Mf.tot; rw [HN.out]
        rw [htt] at hsum ⊢
        clear htt
        have ko := fun w2 h => order_any a L n c HN.out (by omega) (fun j hj => by have := HE.out j hj; omega) w2 h
        unfold OrdPost at ko
        by_cases h0 : Mf.ordE L = 0
        · have hI := incs_of h0
          rw [Mf.ordM_ok h0, h0] at ko
          have hlen := Mf.mrg_len L
          obtain ⟨i0, hi, hz0, hz1, hz2⟩ := info_parts info3
          have HI := Lib.hid hI; have HLEN := Lib.hid hlen
          have hgt : goInt (Mf.tot L) = .int .i64 (Mf.tot L) := by simp [goInt]
          clear h0 hI hlen
          go_wp2_with (go_at_call 22; refine (ko _ HL.out).mono ?_; rintro e w1 ⟨v1, rfl, hr1, hq1⟩; obtain ⟨a1, c1, rfl, s1, _⟩ := own_pl hr1; rw [HLEN.out]; obtain ⟨w2, hmk, ho, hg⟩ := run_make_full (P := Tryd.prog) w1 w1.heap.size 41 3 i0 (.int .i64 0) 1 Tryd.underlying41 hi hz0 hz1 .i64 .i64 n (by rw [hz2]; omega) (by unfold maxLen; omega) (Nat.le_refl _); clear hr1)
          have hsz1 : w1.heap.size < w2.heap.size := ho.lt _ rfl |>.2
          have hMM : MM L w1.heap.size 0 w1 w2 := by
            refine ⟨Nat.zero_le _, (Q.refl w1).grown hg (fun r e => by cases e), hsz1, fun j hj => ⟨?_, ho.frozenAt j⟩⟩
            rw [HN.out] at hj
            have := ho.cellAt j (by omega)
            rw [this, show (Value.int IntKind.i64 0).cells = #[Value.int .i64 0] from rfl, toList_madeCells_one]
            simp [List.getElem?_replicate, show j < n by omega, Mf.st]
          obtain ⟨R, hR⟩ : ∃ R, w1.heap.size = R := ⟨_, rfl⟩
          rw [hR] at hMM ⊢
          have HR : Hid (w1.heap.size ≤ R) := Lib.hid (by omega)
          clear hmk ho hg hsz1 hR
          go_loopw [8] (fun vi wr => ∃ i : Nat, vi = .int .i64 i ∧ MM L R i w1 wr) (fun vi _ => Mf.tot L - (intOf vi).toNat)
          case atStart => exact ⟨0, rfl, hMM⟩
          case round =>
            obtain ⟨i, rfl, hM⟩ := hrel
            clear hMM
            rcases Nat.lt_or_ge i (Mf.tot L) with hlt | hge
            · obtain ⟨bb, hbk⟩ := Mf.bk_some hlt
              obtain ⟨b1, b2⟩ := Mf.bk_bd hbk
              have hbn : bb < n := by rw [← HN.out]; exact b1
              have z1 : decide ((i : Int) < (Mf.tot L : Int)) = true := by simp; omega
              have ca := (hM.2.2.2 bb b1).1
              have fa := (hM.2.2.2 bb b1).2
              rcases s1.later hM.2.1 with q0 | ⟨g, o, rfl, hgl, hcell⟩
              · have := HLEN.out; omega
              have hmi : (Mf.mrg L).getD i (0, 0) = Mf.item L i := upto_get L _ i hlt
              obtain ⟨c1', c2'⟩ := hcell i (by rw [HLEN.out]; exact hlt)
              rw [hmi, Mf.item_some hbk] at c1' c2'
              dsimp only at c1' c2'
              obtain ⟨b3, o3, hp3⟩ := ((HL.out.later hq1).later hM.2.1).parts
              obtain ⟨rfl, ad, cp, cr, e2⟩ := hp3 bb b1
              rcases e2 with e2 | ⟨g2, o2, a2, _, e2⟩
              · exact absurd b2 (by unfold Mf.ln; omega)
              have v2 := e2 _ b2
              rw [show (Mf.row L bb).getD (Mf.st L i bb) 0 = Mf.val L (Mf.st L i) bb from rfl] at v2
              rw [a2] at cr
              have hl9 := HE.out bb hbn
              have x2 : (0 : Int) ≤ (Mf.st L i bb : Int) ∧ (Mf.st L i bb : Int) < (Mf.ln L bb : Int) := by omega
              have x3 : (0 : Int) ≤ (bb : Int) ∧ (bb : Int) < (n : Int) := by omega
              have x4 : decide ((bb : Int) < 0) = false := by simp
              have x5 : decide ((n : Int) ≤ (bb : Int)) = false := by simp; omega
              have x6 : decide (n ≤ bb) = false := by simp; omega
              have x7 : decide (Mf.ln L bb ≤ Mf.st L i bb) = false := by simp; omega
              have x8 : decide ((Mf.ln L bb : Int) ≤ (Mf.st L i bb : Int)) = false := by simp; omega
              have hgl9 : goInt (Mf.ln L bb) = .int .i64 (Mf.ln L bb) := by simp [goInt]
              have HM := Lib.hid hM; have HB := Lib.hid hbk; have HLT := Lib.hid hlt
              have hit : (0 : Int) ≤ (i : Int) ∧ (i : Int) < (Mf.tot L : Int) := by omega
              rcases Nat.eq_zero_or_pos i with hi0 | hi0
              · have y5 : decide ((0 : Int) < (i : Int)) = false := by simp; omega
                have y6 : decide (0 < i) = false := by simp; omega
                have HI0 := Lib.hid hi0
                clear hi0
                generalize Mf.val L (Mf.st L i) bb = q2 at *
                clear hM hbk e2 a2 b1 b2 hp3 hcell hmi
                go_wp2_with fail
                refine wp_region_quiet_lit (by kernel_rfl) (by kernel_rfl) ?_
                dsimp only [List.append]
                repeat (go_big_quiet_step (fail))
                refine wpQuiet_nil ?_
                intro _ hw2
                obtain ⟨nq, hw3⟩ := hw2
                subst hw3
                go_wp2_with fail
                go_roundw
                case rel => exact ⟨i + 1, by go_num, (HM.out.drewN nq).step HR.out HLT.out HB.out⟩
                case measure => simp [intOf]; omega
              · obtain ⟨b0, hb0⟩ := Mf.bk_some (L := L) (k := i - 1) (by omega)
                have hord := Mf.item_lt HI.out hb0 (by rw [show i - 1 + 1 = i by omega]; exact hbk)
                rw [show i - 1 + 1 = i by omega] at hord
                obtain ⟨p1', p2'⟩ := hcell (i - 1) (by rw [HLEN.out]; omega)
                have hmi0 : (Mf.mrg L).getD (i - 1) (0, 0) = Mf.item L (i - 1) := upto_get L _ (i - 1) (by omega)
                rw [hmi0, Mf.item_some hb0] at p1' p2'
                dsimp only at p1' p2'
                have y5 : decide ((0 : Int) < (i : Int)) = true := by simp; omega
                have y6 : decide (0 < i) = true := by simp; omega
                have y7 : ((i : Int) - 1).toNat = i - 1 := by omega
                have y8 : (0 : Int) ≤ (i : Int) - 1 ∧ (i : Int) - 1 < (Mf.tot L : Int) := by omega
                have y8' : (1 : Int) ≤ (i : Int) := by omega
                generalize Mf.val L (Mf.st L i) bb = q2 at *
                generalize Mf.val L (Mf.st L (i - 1)) b0 = q1 at *
                clear hM hbk e2 a2 b1 b2 hp3 hcell hmi hmi0 hb0
                rcases hord with hord | ⟨hord, hord2⟩
                · have y9 : decide (q2 < q1) = false := by simp; omega
                  have y10 : (q2 == q1) = false := beq_f (by omega)
                  go_wp2_with fail
                  refine wp_region_quiet_lit (by kernel_rfl) (by kernel_rfl) ?_
                  dsimp only [List.append]
                  repeat (go_big_quiet_step (fail))
                  refine wpQuiet_nil ?_
                  intro _ hw2
                  obtain ⟨nq, hw3⟩ := hw2
                  subst hw3
                  go_wp2_with fail
                  go_roundw
                  case rel => exact ⟨i + 1, by go_num, (HM.out.drewN nq).step HR.out HLT.out HB.out⟩
                  case measure => simp [intOf]; omega
                · subst hord
                  have y9 : decide ((bb : Int) ≤ (b0 : Int)) = false := by simp; omega
                  have y10 : decide (bb ≤ b0) = false := by simp; omega
                  go_wp2_with fail
                  refine wp_region_quiet_lit (by kernel_rfl) (by kernel_rfl) ?_
                  dsimp only [List.append]
                  repeat (go_big_quiet_step (fail))
                  refine wpQuiet_nil ?_
                  intro _ hw2
                  obtain ⟨nq, hw3⟩ := hw2
                  subst hw3
                  go_wp2_with fail
                  go_roundw
                  case rel => exact ⟨i + 1, by go_num, (HM.out.drewN nq).step HR.out HLT.out HB.out⟩
                  case measure => simp [intOf]; omega
            · obtain rfl : i = Mf.tot L := by have := hM.1; omega
              have z1 : decide ((Mf.tot L : Int) < (Mf.tot L : Int)) = false := by simp
              have hqm := hM.2.1
              go_wp2_with (go_at_call 14; refine (works_any _ (Tab.later hT (by (repeat (first | exact Q.refl _ | assumption | refine Q.alloc ?_ _ | refine Q.drew ?_ | refine Q.drewN ?_ _ | refine Q.trans ?_ (by assumption)))))).mono ?_; rintro e w9 ⟨rfl, hq9⟩)
              go_ret
              exact ⟨rfl, by (repeat (first | exact Q.refl _ | assumption | refine Q.alloc ?_ _ | refine Q.drew ?_ | refine Q.drewN ?_ _ | refine Q.trans ?_ (by assumption)))⟩
        · rw [Mf.ordM_err h0] at ko
          generalize Mf.ordE L = y at *
          have y3 : (y != 0) = true := bne_t h0
          have hg0 : goInt 0 = .int .i64 0 := by simp [goInt]
          clear h0
          go_wp2_with (first
            | (go_at_call 22; refine (ko _ HL.out).mono ?_; rintro e w1 ⟨v1, rfl, hr1, hq1⟩; obtain ⟨a1, c1, rfl, s1, _⟩ := own_pl hr1; rw [List.length_nil]; clear hr1)
            | (go_at_call 14; refine (works_any _ (Tab.later hT (by (repeat (first | exact Q.refl _ | assumption | refine Q.alloc ?_ _ | refine Q.drew ?_ | refine Q.drewN ?_ _ | refine Q.trans ?_ (by assumption)))))).mono ?_; rintro e w9 ⟨rfl, hq9⟩))
          go_ret
          exact ⟨rfl, by (repeat (first | exact Q.refl _ | assumption | refine Q.alloc ?_ _ | refine Q.drew ?_ | refine Q.drewN ?_ _ | refine Q.trans ?_ (by assumption)))⟩
end Go.Proofs.YtadfdkhgjjehnaaDoor
