/- The law TopGates: its loop. -/
import Derived.Test.YtnmgcjkffeeapabGreatDoorLawBb
namespace Go.Proofs.YtnmgcjkffeeapabGreatDoor
open Go.RowKit
set_option linter.unusedVariables false
set_option linter.unusedSimpArgs false
theorem LoopAt.at_time {p : Pl} {K A B X P : Nat} {cap : Int} {x : Ga} {n now t : Int} {w0 w : World} (h : LoopAt p K A B X P cap x n now w0 w) (h2 : GaOk x n t) : LoopAt p K A B X P cap x n t w0 w :=
  ⟨h.g, h.k, h.a, h.b, h.v, h.cp, h.q, h2, h.al, h.mo, h.nd, h.ge⟩
theorem LoopAt.tm {p : Pl} {K A B X P : Nat} {cap : Int} {x : Ga} {n now : Int} {w0 w : World} (h : LoopAt p K A B X P cap x n now w0 w) : 0 ≤ now ∧ now ≤ 253402300799 := by
  have := h.ok.hn
  omega
def CutAt (p : Pl) (K A B X P : Nat) (cap : Int) (x : Ga) (n t : Int) (w0 : World) (j : Nat) (s20 : Value) (w : World) : Prop := s20 = .int .i64 (acc (rz x t) j) ∧ LoopAt p K A B X P cap x n t w0 w
theorem nd12 {p : Pl} {K A B X P m : Nat} (h : p.all.Nodup) (hb : ∀ b ∈ p.all, P + 2 ≤ b ∧ b < m) (h1 : P + 2 ≤ m) (h2 : m < K) (h3 : K < A) (h4 : A < B ∧ B < X) : (p.all ++ [K, A, B, X, P]).Nodup := by
  rw [List.nodup_append]
  refine ⟨h, by simp; omega, fun a ha b hb' => ?_⟩
  have := hb a ha
  simp at hb'
  omega
theorem fresh_ok {T U T2 U2 F O N cap : Int} (h1 : VL T U) (h2 : VL T2 U2) (h3 : VB F O N) (hc0 : 0 ≤ cap) (hc : cap ≤ 5) : GaOk ⟨0, Ca.fresh 3 cap, ⟨false, 0, 0, T2, U2⟩, ⟨false, 0, 0, T, U⟩, Bx.fresh F O N⟩ 1 0 := by
  obtain ⟨a1, a2, a3⟩ := h1
  obtain ⟨b1, b2, b3⟩ := h2
  unfold VB at h3
  refine ⟨?_, ?_, ?_, ?_, ?_, ?_, ?_, ?_, ?_⟩
  all_goals simp [Ca.ok, Li.ok, Bx.ok, Ca.fresh, Bx.fresh]
  all_goals omega
set_option maxRecDepth 100000 in
set_option maxHeartbeats 8000000 in
theorem law_val (cap pri spl dea mis kee T U F O N X B C J T2 U2 : Int) (a : Option Addr) (len cp : Nat) (zs : List Int) (w : World) (hl : len ≤ 60) (hc : cap ≤ 5) (hp : polE cap pri spl dea mis kee T U F O N X B C J = 0) (hv : limE T2 U2 = 0) (hs : StepsAt a len zs w) : Calls Tryz.prog 3 #[.agg #[.int .i64 cap, .int .i64 pri, .int .i64 spl, .int .i64 dea, .int .i64 mis, .int .i64 kee, .int .i64 T, .int .i64 U, .int .i64 F, .int .i64 O, .int .i64 N, .int .i64 X, .int .i64 B, .int .i64 C, .int .i64 J], .agg #[.int .i64 T2, .int .i64 U2], .slice a len cp] w fun e w' => e = .returned (.bool true) ∧ Q w w' := by
  have kw := fun w2 => works_any w2
  obtain ⟨hvl, hvb, hc0⟩ := pol_parts hp
  have hj3 := jobs3_of cap pri spl dea mis kee T U F O N X B C J
  rw [hp] at hj3
  have kn := fun JJ w2 h2 => gnew_yes (jobL cap pri spl dea mis kee T U F O N X B C J) hj3 3 cap T2 U2 T U F O N (by decide) (limE_zero.1 hv) (by omega) hvl hvb (jobC_of cap pri spl dea mis kee T U F O N X B C J) JJ w2 h2
  have kc := fun E c w2 hE => cnew_ok 3 cap E c (by decide) (by omega) w2 hE
  have k2 := fun w2 => lnew_ok T2 U2 (limE_zero.1 hv) w2
  have k1 := fun w2 => lnew_ok T U hvl w2
  have kx := fun w2 => bnew_ok F O N hvb w2
  have HS := Lib.hid hs
  have hVL := Lib.hid hvl
  have hVL2 := Lib.hid (limE_zero.1 hv)
  have hVB := Lib.hid hvb
  have y1 : decide ((60 : Int) < (len : Int)) = false := by simp; omega
  have y2 : decide ((5 : Int) < cap) = false := by simp; omega
  clear hp hv hvl hvb hj3 hs
  unfold Cfg jobL at kn
  go_enter Tryz.func3, Tryz.ntmps3
  have hpo := po_new cap pri spl dea mis kee T U F O N X B C J T2 U2 w
  have qp := ((Q.refl w).alloc (.cells #[.int .i64 cap, .int .i64 pri, .int .i64 spl, .int .i64 dea, .int .i64 mis, .int .i64 kee, .int .i64 T, .int .i64 U, .int .i64 F, .int .i64 O, .int .i64 N, .int .i64 X, .int .i64 B, .int .i64 C, .int .i64 J] 29)).alloc (.cells #[.int .i64 T2, .int .i64 U2] 23)
  go_upto_region 7 with (go_at_call 5; (with_reducible refine (kn _ _ ?_).mono ?_); (· exact job_at _ _ _ _ (by simp)); rintro e w1 ⟨p, rfl, hg, hge, q1⟩; have hpo1 := hpo.q (Q.trans (by repeat (first | exact Q.refl _ | assumption | refine Q.alloc ?_ _ | refine Q.drew ?_ | refine Q.drewN ?_ _)) q1); have qw1 := qp.trans (Q.trans (by repeat (first | exact Q.refl _ | assumption | refine Q.alloc ?_ _ | refine Q.drew ?_ | refine Q.drewN ?_ _)) q1))
  have hge1 : ∀ b ∈ p.all, w.heap.size + 2 ≤ b := by
    intro b hb
    have := hge b hb
    simp at this
    omega
  have zg1 := hg.lt'
  clear hpo qp hge q1 kn
  obtain ⟨c0, c6, c7, c8, c9, c10, l0, l1⟩ := id hpo1
  have zP : w.heap.size + 1 < w1.heap.size := lt_of_cell l0
  have zP0 : w.heap.size < w1.heap.size := by omega
  go_upto_region 8 with (go_at_call 6; (with_reducible refine (kc _ _ _ ?_).mono ?_); (· exact cell_new1 _ _ _); rintro e w2 ⟨K, rfl, zK, hK, q2⟩; have q2' := ((Q.refl w1).alloc _).trans q2)
  have hg2 := hg.q q2'
  have hpo2 := hpo1.q q2'
  have qw2 := qw1.trans q2'
  have zK1 := hK.lt
  have s2 := q2'.size
  simp at zK
  clear hg hpo1 qw1 q2 q2' c0 c6 c7 c8 c9 c10 l0 l1
  obtain ⟨c0, c6, c7, c8, c9, c10, l0, l1⟩ := id hpo2
  go_upto_region 9 with (go_at_call 7; (with_reducible refine (k2 _).mono ?_); rintro e w3 ⟨A, rfl, zA, hA, q3⟩)
  have hg3 := hg2.q q3
  have hpo3 := hpo2.q q3
  have qw3 := qw2.trans q3
  have hK3 := hK.q q3
  have zA1 := hA.lt
  have s3 := q3.size
  clear hg2 hpo2 qw2 q3 hK c0 c6 c7 c8 c9 c10 l0 l1
  obtain ⟨c0, c6, c7, c8, c9, c10, l0, l1⟩ := id hpo3
  go_upto_region 10 with (go_at_call 7; (with_reducible refine (k1 _).mono ?_); rintro e w4 ⟨B', rfl, zB, hB, q4⟩)
  have hg4 := hg3.q q4
  have hpo4 := hpo3.q q4
  have qw4 := qw3.trans q4
  have hK4 := hK3.q q4
  have hA4 := hA.q q4
  have zB1 := hB.lt
  have s4 := q4.size
  clear hg3 hpo3 qw3 q4 hK3 hA c0 c6 c7 c8 c9 c10 l0 l1
  obtain ⟨c0, c6, c7, c8, c9, c10, l0, l1⟩ := id hpo4
  go_upto_region 13 with (go_at_call 8; (with_reducible refine (kx _).mono ?_); rintro e w5 ⟨X', rfl, zX, hX, q5⟩)
  have hL0 : LoopAt p K A B' X' w.heap.size cap ⟨0, Ca.fresh 3 cap, ⟨false, 0, 0, T2, U2⟩, ⟨false, 0, 0, T, U⟩, Bx.fresh F O N⟩ 1 0 w w5 := by
    have zX1 := hX.lt
    have s5 := q5.size
    refine ⟨hg4.q q5, hK4.q q5, hA4.q q5, hB.q q5, hX, keepc q5 c0, qw4.trans q5, ?_, rfl, rfl, ?_, ?_⟩
    · exact fresh_ok hVL.out hVL2.out hVB.out hc0 hc
    · exact nd12 hg4.nd (fun b hb => ⟨hge1 b hb, zg1 b hb⟩) (by omega) (by omega) (by omega) (by omega)
    · intro b hb
      simp at hb
      rcases hb with hb | hb
      · have := hge1 b hb; omega
      · omega
  clear hg4 hpo4 qw4 hK4 hA4 hB hX q5 c0 c6 c7 c8 c9 c10 l0 l1
  clear hge1 zg1 zP zP0 zK zK1 s2 zA zA1 s3 zB zB1 s4 zX kc k2 k1 kx hVL hVL2 hVB y1 y2
  go_wp2_with fail
  go_loopw [18, 19] (fun s18 s19 wr => LoopRel p K A B' X' w.heap.size cap len w s18 s19 wr) (fun _ s19 _ => len - (intOf s19).toNat)
  case atStart => exact ⟨0, _, 0, rfl, rfl, by omega, by omega, hL0⟩
  case round =>
    obtain ⟨i, x, now, rfl, rfl, hi, hnow, hL⟩ := hrel
    clear hL0
    by_cases hlt : i < len
    · have y1 : decide ((i : Int) < (len : Int)) = true := by simp; omega
      rcases HS.out with h0 | ⟨sb, so, rfl, hsb, hst⟩
      · omega
      obtain ⟨hcell, s0, s1⟩ := hst i hlt
      have hcs := keepc hL.q hcell
      have HC := Lib.hid hcell
      clear hcell hst
      generalize zs.getD i 0 = st at *
      have y2 : (0 : Int) ≤ (i : Int) ∧ (i : Int) < (len : Int) := by omega
      obtain ⟨hn0, hn1⟩ := hL.ok.hn
      go_upto_region 18 with fail
      have ht0 : now ≤ now + st / 16 := by omega
      have ht1 : now + st / 16 ≤ 15 * ((i : Int) + 1) := by omega
      generalize now + st / 16 = t at *
      have hL1 : LoopAt p K A B' X' w.heap.size cap x ((i : Int) + 1) t w wr := hL.at_time (hL.ok.later ht0 (by omega))
      have hlen : (i : Int) + 1 < 100 := by omega
      clear hL y1 y2 hn0 hn1 s0 s1 ht0 hnow
      go_upto_if 111 with (go_at_call 9; (with_reducible refine (ctotal_any K x.ca _ hL1.k).mono ?_); rintro e w6 ⟨rfl, rfl⟩)
      have hor := or_acc0 (rz x t)
      have hz : acc (rz x t) 0 = 0 := rfl
      rw [hz] at hor
      have HA := Lib.hid hz
      clear hz
      go_cut [20] (fun s20 wx => CutAt p K A B' X' w.heap.size cap x ((i : Int) + 1) t w 1 s20 wx)
      case first =>
        by_cases h : 3 ≤ x.ca.runs
        · as_aux_lemma =>
            have hb : rz x t 0 = true := by show decide (x.ca.all ≤ x.ca.runs) = true; rw [hL1.al]; simpa using h
            have hx : acc (rz x t) 1 = 0 + 1 := by have := acc_t (f := rz x t) (k := 0) hb; rw [HA.out] at this; simpa using this
            have HX := Lib.hid hx
            clear hx hb
            have y5 : decide (3 ≤ x.ca.runs) = true := by simpa using h
            go_wp2_with fail
            go_meet
            exact ⟨val_int (by have := HX.out; omega), hL1⟩
        · as_aux_lemma =>
            have hb : rz x t 0 = false := by show decide (x.ca.all ≤ x.ca.runs) = false; rw [hL1.al]; simpa using h
            have hx : acc (rz x t) 1 = 0 := by have := acc_f (f := rz x t) (k := 0) hb; rw [HA.out] at this; simpa using this
            have HX := Lib.hid hx
            clear hx hb
            have y5 : decide (3 ≤ x.ca.runs) = false := by simpa using h
            go_wp2_with fail
            go_meet
            exact ⟨val_int (by have := HX.out; omega), hL1⟩
      case rest =>
       clear hor HA
       obtain ⟨rfl, hL1⟩ := hcut
       obtain ⟨a, ha⟩ : ∃ a, acc (rz x t) 1 = a := ⟨_, rfl⟩
       rw [ha]
       have HA := Lib.hid ha
       clear ha
       go_upto_if 117 with (go_at_call 10; (with_reducible refine (lallows_any A x.la _ t _ hL1.a hL1.ok.la hL1.tm hL1.ok.l1).mono ?_); rintro e w6 ⟨rfl, q6⟩)
       have hL2 := hL1.q' q6
       clear hL1 q6
       have hL1 := hL2
       clear hL2
       have hor := or_acc1 (rz x t)
       rw [HA.out] at hor
       go_cut [20] (fun s20 wx => CutAt p K A B' X' w.heap.size cap x ((i : Int) + 1) t w 2 s20 wx)
       case first =>
         cases h : x.la.early t
         · as_aux_lemma =>
             have hb : rz x t 1 = false := h
             have hx : acc (rz x t) 2 = a := by have := acc_f (f := rz x t) (k := 1) hb; rw [HA.out] at this; simpa using this
             have HX := Lib.hid hx
             clear hx hb
             go_wp2_with fail
             go_meet
             exact ⟨val_int (by have := HX.out; omega), hL1⟩
         · as_aux_lemma =>
             have hb : rz x t 1 = true := h
             have hx : acc (rz x t) 2 = a + 2 := by have := acc_t (f := rz x t) (k := 1) hb; rw [HA.out] at this; simpa using this
             have HX := Lib.hid hx
             clear hx hb
             go_wp2_with fail
             go_meet
             exact ⟨val_int (by have := HX.out; omega), hL1⟩
       case rest =>
        clear hor HA
        obtain ⟨rfl, hL1⟩ := hcut
        obtain ⟨a, ha⟩ : ∃ a, acc (rz x t) 2 = a := ⟨_, rfl⟩
        rw [ha]
        have HA := Lib.hid ha
        clear ha
        go_upto_if 128 with (go_at_call 11; (with_reducible refine (used_any K x.ca _ hL1.k).mono ?_); rintro e w6 ⟨rfl, q6⟩; have hcp := keepc q6 hL1.cp)
        have hL2 := hL1.q' q6
        clear hL1 q6
        have hL1 := hL2
        clear hL2
        clear hcp
        have hor := or_acc2 (rz x t)
        rw [HA.out] at hor
        go_cut [20, 21] (fun s20 s21 wx => CutAt p K A B' X' w.heap.size cap x ((i : Int) + 1) t w 3 s20 wx ∧ s21 = .int .i64 x.ca.runs)
        case first =>
          by_cases h : cap ≤ x.ca.runs
          · as_aux_lemma =>
              have hb : rz x t 2 = true := by show decide (x.ca.most ≤ x.ca.runs) = true; rw [hL1.mo]; simpa using h
              have hx : acc (rz x t) 3 = a + 4 := by have := acc_t (f := rz x t) (k := 2) hb; rw [HA.out] at this; simpa using this
              have HX := Lib.hid hx
              clear hx hb
              have y5 : decide (cap ≤ x.ca.runs) = true := by simpa using h
              go_wp2_with fail
              go_meet
              exact ⟨⟨val_int (by have := HX.out; omega), hL1⟩, rfl⟩
          · as_aux_lemma =>
              have hb : rz x t 2 = false := by show decide (x.ca.most ≤ x.ca.runs) = false; rw [hL1.mo]; simpa using h
              have hx : acc (rz x t) 3 = a := by have := acc_f (f := rz x t) (k := 2) hb; rw [HA.out] at this; simpa using this
              have HX := Lib.hid hx
              clear hx hb
              have y5 : decide (cap ≤ x.ca.runs) = false := by simpa using h
              go_wp2_with fail
              go_meet
              exact ⟨⟨val_int (by have := HX.out; omega), hL1⟩, rfl⟩
        case rest =>
         clear hor HA
         obtain ⟨⟨rfl, hL1⟩, rfl⟩ := hcut
         obtain ⟨a, ha⟩ : ∃ a, acc (rz x t) 3 = a := ⟨_, rfl⟩
         rw [ha]
         have HA := Lib.hid ha
         clear ha
         go_upto_if 134 with (go_at_call 10; (with_reducible refine (lallows_any B' x.lj _ t _ hL1.b hL1.ok.lj hL1.tm hL1.ok.l2).mono ?_); rintro e w6 ⟨rfl, q6⟩)
         have hL2 := hL1.q' q6
         clear hL1 q6
         have hL1 := hL2
         clear hL2
         have hor := or_acc3 (rz x t)
         rw [HA.out] at hor
         go_cut [20] (fun s20 wx => CutAt p K A B' X' w.heap.size cap x ((i : Int) + 1) t w 4 s20 wx)
         case first =>
           cases h : x.lj.early t
           · as_aux_lemma =>
               have hb : rz x t 3 = false := h
               have hx : acc (rz x t) 4 = a := by have := acc_f (f := rz x t) (k := 3) hb; rw [HA.out] at this; simpa using this
               have HX := Lib.hid hx
               clear hx hb
               go_wp2_with fail
               go_meet
               exact ⟨val_int (by have := HX.out; omega), hL1⟩
           · as_aux_lemma =>
               have hb : rz x t 3 = true := h
               have hx : acc (rz x t) 4 = a + 8 := by have := acc_t (f := rz x t) (k := 3) hb; rw [HA.out] at this; simpa using this
               have HX := Lib.hid hx
               clear hx hb
               go_wp2_with fail
               go_meet
               exact ⟨val_int (by have := HX.out; omega), hL1⟩
         case rest =>
          clear hor HA
          obtain ⟨rfl, hL1⟩ := hcut
          obtain ⟨a, ha⟩ : ∃ a, acc (rz x t) 4 = a := ⟨_, rfl⟩
          rw [ha]
          have HA := Lib.hid ha
          clear ha
          go_upto_if 140 with (go_at_call 12; (with_reducible refine (ballows_any X' x.bx _ t _ hL1.v hL1.ok.bx).mono ?_); rintro e w6 ⟨rfl, q6⟩)
          have hL2 := hL1.q' q6
          clear hL1 q6
          have hL1 := hL2
          clear hL2
          have hor := or_acc4 (rz x t)
          rw [HA.out] at hor
          go_cut [20] (fun s20 wx => CutAt p K A B' X' w.heap.size cap x ((i : Int) + 1) t w 5 s20 wx)
          case first =>
            cases h : x.bx.alw t
            · as_aux_lemma =>
                have hb : rz x t 4 = true := by show (!x.bx.alw t) = true; rw [h]; rfl
                have hx : acc (rz x t) 5 = a + 16 := by have := acc_t (f := rz x t) (k := 4) hb; rw [HA.out] at this; simpa using this
                have HX := Lib.hid hx
                clear hx hb
                go_wp2_with fail
                go_meet
                exact ⟨val_int (by have := HX.out; omega), hL1⟩
            · as_aux_lemma =>
                have hb : rz x t 4 = false := by show (!x.bx.alw t) = false; rw [h]; rfl
                have hx : acc (rz x t) 5 = a := by have := acc_f (f := rz x t) (k := 4) hb; rw [HA.out] at this; simpa using this
                have HX := Lib.hid hx
                clear hx hb
                go_wp2_with fail
                go_meet
                exact ⟨val_int (by have := HX.out; omega), hL1⟩
          case rest =>
           clear hor HA
           obtain ⟨rfl, hL1⟩ := hcut
           have kwy := why_any p x _ t _ hL1.g hL1.ok
           obtain ⟨a, ha⟩ : ∃ a, acc (rz x t) 5 = a := ⟨_, rfl⟩
           rw [ha] at kwy ⊢
           have HA := Lib.hid ha
           clear ha
           go_upto_region 33 with (go_at_call 13; (with_reducible refine kwy.mono ?_); rintro e w7 ⟨rfl, q7⟩)
           have hL2 := hL1.q' q7
           clear hL1 q7 kwy hcs
           have hL1 := hL2
           clear hL2
           have hcs := keepc hL1.q HC.out
           have y1 : (0 : Int) ≤ (i : Int) ∧ (i : Int) < (len : Int) := by omega
           have hrn := hL1.ok.ca.2.2.1
           by_cases hb1 : bits BinOp.and IntKind.u8 st 1 = 1
           · have y7 : (bits BinOp.and IntKind.u8 st 1 == 1) = true := beq_t hb1
             clear hb1
             by_cases h0 : a = 0
             · as_aux_lemma =>
                 subst h0
                 obtain ⟨r0, r1, r2, r3, r4⟩ := acc_zero HA.out
                 simp [rz] at r0 r1 r2 r3 r4
                 have R0 := Lib.hid r0
                 have R1 := Lib.hid r1
                 have R2 := Lib.hid r2
                 have R3 := Lib.hid r3
                 have R4 := Lib.hid r4
                 clear r0 r1 r2 r3 r4
                 go_wp2_with (first
                   | (go_at_call 14; (with_reducible refine (b14 hL1 HA.out).mono ?_); rintro e w8 ⟨rfl, h8⟩)
                   | (go_at_call 15; (with_reducible refine (b15 hL1.ok ⟨R2.out, R0.out⟩ h8).mono ?_); rintro e w9 ⟨rfl, h9⟩)
                   | (go_at_call 16; (with_reducible refine (b16A hL1.ok R1.out h9).mono ?_); rintro e w10 ⟨rfl, h10⟩)
                   | (go_at_call 16; (with_reducible refine (b16B hL1.ok R3.out h10).mono ?_); rintro e w11 ⟨rfl, h11⟩)
                   | (go_at_call 17; (with_reducible refine (b17 hL1.ok R4.out h11).mono ?_); rintro e w12 ⟨rfl, h12⟩))
                 have hN := took hL1.ok hlen R0.out hL1.al hL1.mo h12
                 clear h8 h9 h10 h11 h12 hL1
                 go_roundw
                 case rel => exact ⟨i + 1, x.take t, t, by go_num, rfl, by omega, by omega, hN⟩
                 case measure => simp [intOf]; omega
             · as_aux_lemma =>
                 have y8 : (a == 0) = false := beq_f h0
                 have y9 : (a != 0) = true := bne_t h0
                 have H0 := Lib.hid h0
                 clear h0
                 go_wp2_with (go_at_call 14; (with_reducible refine (gtake_no p x _ t _ hL1.g hL1.ok ?_).mono ?_); (· rw [HA.out]; exact H0.out); rintro e w8 ⟨rfl, q8⟩)
                 have hN := stay (hL1.q' q8) hlen
                 clear hL1 q8
                 go_roundw
                 case rel => exact ⟨i + 1, x, t, by go_num, rfl, by omega, by omega, hN⟩
                 case measure => simp [intOf]; omega
           · have y7 : (bits BinOp.and IntKind.u8 st 1 == 1) = false := beq_f hb1
             clear hb1
             by_cases hr : 0 < x.ca.runs
             · by_cases hb2 : bits BinOp.and IntKind.u8 st 2 = 0
               · as_aux_lemma =>
                   have y10 : (bits BinOp.and IntKind.u8 st 2 == 0) = true := beq_t hb2
                   clear hb2
                   have y11 : decide (0 < x.ca.runs) = true := by simpa using hr
                   obtain ⟨ev, hev⟩ : ∃ ev, (x.bx.rep true t).1 = ev := ⟨_, rfl⟩
                   have k18 := b18 true hL1 hr
                   have k19 := fun w2 (h : Both p K A B' X' w.heap.size cap (x.give true t) x.ca x.la x.lj x.bx w w2) => b19 true hL1.ok h
                   rw [hev] at k18
                   simp only [hev] at k19
                   clear hev
                   go_wp2_with (first
                     | (go_at_call 18; (with_reducible refine k18.mono ?_); rintro e w8 ⟨rfl, h8⟩; have hcs2 := keepc h8.q HC.out)
                     | (go_at_call 19; (with_reducible refine (k19 _ h8).mono ?_); rintro e w9 ⟨rfl, h9⟩)
                     | (go_at_call 20; (with_reducible refine (b20 hL1.ok hr h9).mono ?_); rintro e w10 ⟨rfl, h10⟩))
                   have hN := gave true hL1.ok hlen hr hL1.al hL1.mo h10
                   clear h8 h9 h10 hL1 k18 k19
                   go_roundw
                   case rel => exact ⟨i + 1, x.give true t, t, by go_num, rfl, by omega, by omega, hN⟩
                   case measure => simp [intOf]; omega
               · as_aux_lemma =>
                   have y10 : (bits BinOp.and IntKind.u8 st 2 == 0) = false := beq_f hb2
                   clear hb2
                   have y11 : decide (0 < x.ca.runs) = true := by simpa using hr
                   obtain ⟨ev, hev⟩ : ∃ ev, (x.bx.rep false t).1 = ev := ⟨_, rfl⟩
                   have k18 := b18 false hL1 hr
                   have k19 := fun w2 (h : Both p K A B' X' w.heap.size cap (x.give false t) x.ca x.la x.lj x.bx w w2) => b19 false hL1.ok h
                   rw [hev] at k18
                   simp only [hev] at k19
                   clear hev
                   go_wp2_with (first
                     | (go_at_call 18; (with_reducible refine k18.mono ?_); rintro e w8 ⟨rfl, h8⟩; have hcs2 := keepc h8.q HC.out)
                     | (go_at_call 19; (with_reducible refine (k19 _ h8).mono ?_); rintro e w9 ⟨rfl, h9⟩)
                     | (go_at_call 20; (with_reducible refine (b20 hL1.ok hr h9).mono ?_); rintro e w10 ⟨rfl, h10⟩))
                   have hN := gave false hL1.ok hlen hr hL1.al hL1.mo h10
                   clear h8 h9 h10 hL1 k18 k19
                   go_roundw
                   case rel => exact ⟨i + 1, x.give false t, t, by go_num, rfl, by omega, by omega, hN⟩
                   case measure => simp [intOf]; omega
             · by_cases hb2 : bits BinOp.and IntKind.u8 st 2 = 0
               · as_aux_lemma =>
                   have y10 : (bits BinOp.and IntKind.u8 st 2 == 0) = true := beq_t hb2
                   clear hb2
                   have y11 : decide (0 < x.ca.runs) = false := by simpa using hr
                   have k18 := ggive_none p x _ t true _ hL1.g hL1.ok (by omega)
                   go_wp2_with (go_at_call 18; (with_reducible refine k18.mono ?_); rintro e w8 ⟨rfl, q8⟩)
                   have hN := stay (hL1.q' q8) hlen
                   clear hL1 q8 k18
                   go_roundw
                   case rel => exact ⟨i + 1, x, t, by go_num, rfl, by omega, by omega, hN⟩
                   case measure => simp [intOf]; omega
               · as_aux_lemma =>
                   have y10 : (bits BinOp.and IntKind.u8 st 2 == 0) = false := beq_f hb2
                   clear hb2
                   have y11 : decide (0 < x.ca.runs) = false := by simpa using hr
                   have k18 := ggive_none p x _ t false _ hL1.g hL1.ok (by omega)
                   go_wp2_with (go_at_call 18; (with_reducible refine k18.mono ?_); rintro e w8 ⟨rfl, q8⟩)
                   have hN := stay (hL1.q' q8) hlen
                   clear hL1 q8 k18
                   go_roundw
                   case rel => exact ⟨i + 1, x, t, by go_num, rfl, by omega, by omega, hN⟩
                   case measure => simp [intOf]; omega
    · have y1 : decide ((i : Int) < (len : Int)) = false := by simp; omega
      have hq := hL.q
      clear hL HS
      as_aux_lemma =>
        go_wp2_with (go_at_call 4; (with_reducible refine (kw _).mono ?_); rintro e w6 ⟨rfl, q6⟩)
        go_ret
        exact ⟨rfl, hq.trans q6⟩
end Go.Proofs.YtnmgcjkffeeapabGreatDoor
