/- The law TopTimers: the walk. -/
import Derived.Test.YtnmgcjkffeeapaaDoorLwC
namespace Go.Proofs.YtnmgcjkffeeapaaDoor
open Go.RowKit
set_option linter.unusedVariables false
set_option linter.unusedSimpArgs false
theorem drains_at {t : Nat → Nat} : ∀ {d : List Nat} {S : Nat → Bool}, Whp.Drains t S d → ∀ (i : Nat) (hi : i < d.length), Whp.rmv S (d.take i) d[i] = true ∧ ∀ k, Whp.rmv S (d.take i) k = true → k ≠ d[i] → Whp.bef t d[i] k
  | [], S, _, i, hi => by simp at hi
  | x :: l, S, .cons h hm hl, 0, _ => by
    rw [List.take_zero, Whp.rmv_nil]
    exact ⟨h, hm⟩
  | x :: l, S, .cons h hm hl, i + 1, hi => by
    rw [List.take_succ_cons, ← Whp.rmv_cons]
    exact drains_at hl i (by simpa using hi)
theorem rmv_sub {S : Nat → Bool} {d : List Nat} {i : Nat} (h : Whp.rmv S d i = true) : S i = true := by
  unfold Whp.rmv at h
  simp at h
  exact h.1
theorem fcs_cell {t : Nat → Nat} {idf : Nat → Int} : ∀ (d : List Nat) (i : Nat) (hi : i < d.length), (fcs t idf d)[i * 2]? = some (.int .i64 (t d[i] : Int)) ∧ (fcs t idf d)[i * 2 + 1]? = some (.int .i64 (idf d[i]))
  | [], i, hi => by simp at hi
  | x :: l, 0, _ => by simp [fcs]
  | x :: l, i + 1, hi => by
    have e : fcs t idf (x :: l) = .int .i64 (t x : Int) :: .int .i64 (idf x) :: fcs t idf l := by simp [fcs]
    have e1 : (i + 1) * 2 = i * 2 + 1 + 1 := by omega
    have e2 : (i + 1) * 2 + 1 = i * 2 + 1 + 1 + 1 := by omega
    rw [e, e2, e1]
    simp only [List.getElem?_cons_succ]
    exact fcs_cell l i (by simpa using hi)
/-- i timers of what has fired have been popped -/
def L3 (w0 : World) (W A Sb M H Mh len1 : Nat) (T t : Nat → Nat) (u : Nat) (S : Nat → Bool) (F3 : Nat → Prop) (rows3 : Nat → List Nat) (Fh : Nat → Prop) (d : List Nat) (vv : Value) (a : Value) (wr : World) : Prop :=
  ∃ (i : Nat) (v' : Value) (l' : List En), a = .int .i64 (i : Int) ∧ i ≤ d.length ∧ LwW w0 W A Sb M 60 len1 T t u (u + 1) (Whp.rmv S d) False F3 rows3 wr ∧ LwH w0 H Mh len1 t (Whp.rmv S (d.take i)) Fh v' l' wr ∧ wr.ownsRow 0 42 2 vv d.length (fcs t idn d) ∧ Q w0 wr
set_option maxRecDepth 100000 in
set_option maxHeartbeats 8000000 in
theorem law_small (now : Nat) (hnow : now < 4294967296) (a1 a2 : Option Addr) (len1 cap1 len2 cap2 : Nat) (z1 z2 : Nat → Nat) (t : Nat → Nat) (ht : ∀ i, t i = now + 1 + z1 i) (w : World) (hT : Tab w) (hr1 : RowA a1 len1 z1 w) (hr2 : RowA a2 len2 z2 w) (hl1 : len1 ≤ 60) (hl2 : len2 ≤ 10) :
    Calls Tryd.prog 3 #[.int .u32 (now : Int), .slice a1 len1 cap1, .slice a2 len2 cap2] w fun e w' => e = .returned (.bool true) ∧ Q w w' := by
  have kn := new_ok 60 now (fun _ => 0) t idn (by omega) (by omega) w
  rw [show ((60 : Nat) : Int) = 60 from rfl] at kn
  have kh := fun w2 => hnew_ok w2
  unfold lessV at kh
  have HT := Lib.hid hT
  have HR1 := Lib.hid hr1
  have HR2 := Lib.hid hr2
  have HTT := Lib.hid ht
  have y1 : (0 : Int) ≤ (now : Int) ∧ (now : Int) < 4294967296 := by omega
  have y2 : decide ((60 : Int) < (len1 : Int)) = false := decide_eq_false (by omega)
  have y3 : decide ((10 : Int) < (len2 : Int)) = false := decide_eq_false (by omega)
  have y4 : (len1 : Int) ≤ 60 := by omega
  have y5 : (len2 : Int) ≤ 10 := by omega
  have HPOS := Lib.hid (tab_pos hT)
  clear hT hr1 hr2 ht
  go_enter Tryd.func3, Tryd.ntmps3
  go_wp2_with fail
  (with_reducible refine kn.mono ?_)
  rintro e w1 ⟨W, A, Sb, M, rfl, hw, hz, d1, d2, d3, d4, d5, n1, n2, n3, n4, hq⟩
  have hz0 := HPOS.out
  have hdj : Dj (fun b => b = W) A Sb M := ⟨d1, d2, d3, d4, d5, by omega, by omega, by omega, by omega⟩
  have HA := Lib.hid (show LwW w W A Sb M 60 0 (fun _ => 0) t now (now + 1) (fun _ => false) True (fun b => b = W) (fun _ => []) w1 from ⟨hw, hz, hdj, winv_nil t (now + 1), by
    rintro x (q | q | q | q) <;> omega⟩)
  have HQ := Lib.hid hq
  clear hw hz d1 d2 d3 d4 d5 n1 n2 n3 n4 hq hdj kn hz0
  go_wp2_with fail
  (with_reducible refine (kh _).mono ?_)
  rintro e w2 ⟨H, Mh, rfl, m1, m2, he, hq2⟩
  have HL : Hid (L1 w W A Sb M H Mh len1 t now (.int .i64 0) w2) := Lib.hid ⟨0, rfl, Nat.zero_le _, by
    rw [sk_zero]
    have hw2 := HA.out.fp (G := fun _ => False) (Fp.ofQ hq2) (fun _ _ => id)
    have hs := HQ.out.size
    refine ⟨_, _, _, _, _, _, hw2, ⟨he, fun j h0 hj => absurd hj (Nat.not_lt_zero j), ⟨List.nodup_nil, fun e => by simp⟩, fun b hb => by rcases hb with q | q <;> omega⟩, fun b hb q => ?_, HQ.out.trans hq2⟩
    have := HA.out.lt b q
    rcases hb with r | r <;> omega⟩
  clear HA HQ m1 m2 he hq2 kh
  go_wp2_with fail
  go_loopw [10] (fun a wr => L1 w W A Sb M H Mh len1 t now a wr) (fun a _ => len1 - (intOf a).toNat)
  case atStart => exact HL.out
  case round =>
    clear HL
    obtain ⟨k, rfl, hk, T, Fw, rows, Fh, v, l, hW, hH, hap, hq⟩ := hrel
    have HQ := Lib.hid hq
    have HR1' := HR1.out.q hq
    have hs := hq.size
    clear hq
    by_cases hkl : k < len1
    · have z0 : decide (k < len1) = true := decide_eq_true hkl
      rcases HR1' with h0 | ⟨b1, o1, rfl, hb1, hc1⟩
      · omega
      obtain ⟨ck, hzk⟩ := hc1 k hkl
      have etk := HTT.out k
      obtain ⟨zk, hzz⟩ : ∃ zk, z1 k = zk := ⟨_, rfl⟩
      rw [hzz] at ck hzk etk
      have etz : ((t k : Nat) : Int) = (now : Int) + 1 + (zk : Int) := by omega
      have hskk : Sk k k = false := by simp [Sk]
      have hal : ∀ i, Sk k i = true → i < k := fun i hi => by simpa [Sk] using hi
      have hrl : (rows (Whp.loc (t k) (now + 1))).length < 60 := by
        have := nodup_le k _ (hW.wi.1 (Whp.loc (t k) (now + 1))).1 (hW.wl.mem _)
        omega
      have ka := add_ok hW.wl hW.wz hW.dj.dA hW.dj.dS hW.dj.dM hW.dj.nAM hW.dj.nSM (show k < 60 by omega) (by omega) ⟨show now < t k by omega, by omega⟩ (show now + 1 < 1099511627776 by omega) hrl hskk hal
      unfold idn at ka
      rw [etz] at ka
      have HWW := Lib.hid hW
      have HHH := Lib.hid hH
      have HAP := Lib.hid hap
      have HET := Lib.hid etz
      have HETK := Lib.hid etk
      have HS := Lib.hid hs
      have y6 : (0 : Int) ≤ (k : Int) ∧ (k : Int) < (len1 : Int) := by omega
      have y7 : (0 : Int) ≤ (zk : Int) ∧ (zk : Int) < 4294967296 := by omega
      have hk60 : k < 60 := by omega
      clear hW hH hap hc1 hzz etk etz hskk hal hrl hs
      go_wp2_with fail
      (with_reducible refine ka.mono ?_)
      rintro e w3 ⟨hd, rfl, hadd⟩
      obtain ⟨T', Fw', rows', hW3, hf3, hg3⟩ := HWW.out.added HS.out (by simp [Sk]) (by have := HETK.out; omega) hadd
      have hH3 := HHH.out.fp hf3 HAP.out
      have hlen : l.length < 60 := by
        have := hH3.len (fun i hi => by simpa [Sk] using hi)
        omega
      have kp := push_ok hH3.he hH3.hp hlen ⟨by omega, by omega⟩ ((t k : Nat) : Int)
      rw [HET.out] at kp
      have HW3 := Lib.hid hW3
      have HH3 := Lib.hid hH3
      have HF3 := Lib.hid hf3
      have HG3 := Lib.hid hg3
      clear hadd hW3 hf3 hg3 hH3 hlen ka
      go_wp2_with fail
      (with_reducible refine kp.mono ?_)
      rintro e w4 ⟨rfl, hpu⟩
      rw [← HET.out] at hpu
      have hs3 : w.heap.size ≤ w3.heap.size := Nat.le_trans HS.out HF3.out.size
      obtain ⟨Fh', v', l', hH4, hf4, hg4⟩ := HH3.out.pushed hs3 (by simp [Sk]) hpu
      have hap3 : ∀ b, Gb Fw' A Sb M b → ¬ Fh b := fun b hb q => by
        have h1 := HAP.out b q
        have h2 := HHH.out.he.Fl b q
        rcases hb with r | r
        · rcases HG3.out b r with r2 | r2
          · exact h1 (.inl r2)
          · omega
        · exact h1 (.inr r)
      have hW4 := HW3.out.fp hf4 hap3
      have HN : Hid (L1 w W A Sb M H Mh len1 t now (.int .i64 (((k + 1 : Nat)) : Int)) w4) := Lib.hid ⟨k + 1, rfl, hkl, by
        rw [sk_ins] at hW4 hH4
        refine ⟨_, _, _, _, _, _, hW4, hH4, fun b hb q => ?_, ?_⟩
        · rcases hg4 b hb with r | r
          · exact hap3 b q r
          · have := HW3.out.lt b q; omega
        · exact fp_q (fp_q HQ.out HF3.out HWW.out.nw) hf4 HHH.out.nh⟩
      clear hpu hH4 hf4 hg4 hap3 hW4 kp hs3
      go_wp2_with fail
      go_roundw
      case rel => exact HN.out
      case measure => simp [intOf]; omega
    · obtain rfl : len1 = k := by omega
      have z0 : decide (len1 < len1) = false := decide_eq_false (by omega)
      have HL2 : Hid (L2 w W A Sb M H Mh len1 len2 t now (.int .i64 (now : Int)) (.int .i64 0) wr) := Lib.hid ⟨0, now, Sk len1, rfl, rfl, Nat.zero_le _, Nat.le_refl _, by omega, ⟨T, Fw, rows, Fh, v, l, ⟨hW.wl, hW.wz.old, hW.dj, hW.wi, hW.nw⟩, hH, hap, HQ.out⟩, fun i hi => (by simpa [Sk] using hi), fun q => absurd q (by omega)⟩
      clear hW hH hap hs HQ HR1'
      go_wp2_with fail
      obtain ⟨wa, rfl⟩ : ∃ wa : World, wa = wr := ⟨_, rfl⟩
      clear z0
      go_loopw [14, 15] (fun a b wr => L2 w W A Sb M H Mh len1 len2 t now a b wr) (fun _ b _ => len2 + 1 - (intOf b).toNat)
      case atStart => exact HL2.out
      case round =>
        clear HL2
        obtain ⟨k, τ, S, rfl, rfl, hk, hτ1, hτ2, ⟨T, Fw, rows, Fh, v, l, hW, hH, hap, hq⟩, hS, hfin⟩ := hrel
        have HQ := Lib.hid hq
        by_cases hkl : k ≤ len2
        · have z0 : decide (k ≤ len2) = true := decide_eq_true hkl
          have y6 : (0 : Int) ≤ (τ : Int) ∧ (τ : Int) < 137438953472 := by
            have : k ≤ 10 := by omega
            omega
          have y7 : (k : Int) ≤ 10 := by omega
          have HWW := Lib.hid hW
          have HHH := Lib.hid hH
          have HAP := Lib.hid hap
          have HSS := Lib.hid hS
          have Hτ := Lib.hid (And.intro hτ1 hτ2)
          by_cases hk2 : k < len2
          · have zk2 : decide (k < len2) = true := decide_eq_true hk2
            rcases HR2.out.q hq with h0 | ⟨b2, o2, rfl, hb2, hc2⟩
            · omega
            obtain ⟨ck, hzk⟩ := hc2 k hk2
            obtain ⟨sk, hsk⟩ : ∃ sk, z2 k = sk := ⟨_, rfl⟩
            rw [hsk] at ck hzk
            have y8 : (0 : Int) ≤ (sk : Int) ∧ (sk : Int) < 4294967296 := by omega
            have y9 : (0 : Int) ≤ (k : Int) ∧ (k : Int) < (len2 : Int) := by omega
            clear hW hH hap hS hc2 hsk hτ1 hτ2 hq hfin
            go_wp2_with fail
            generalize hU : (τ : Int) + (sk : Int) = U
            have hs := AdS.start (u := τ + sk) HWW.out.wl HWW.out.wz HWW.out.wi HWW.out.dj (by omega) (HT.out.later HQ.out)
            have htb : ∀ i, i < len1 → t i < 1099511627776 := fun i hi => by
              rcases HR1.out with h0 | ⟨b1, o1, _, _, hc1⟩
              · omega
              · have := (hc1 i hi).2
                have := HTT.out i
                omega
            have kv := advance_ok hs hl1 HSS.out htb ⟨by omega, by omega⟩
            rw [show ((τ + sk : Nat) : Int) = U from by omega] at kv
            obtain ⟨u, hu⟩ : ∃ u, τ + sk = u := ⟨_, rfl⟩
            rw [hu] at kv
            have hUu : U = (u : Int) := by omega
            have HUU := Lib.hid hUu
            have HUE := Lib.hid hu
            have yU : (0 : Int) ≤ U ∧ U < 274877906944 := by omega
            clear hs htb hU hu hUu ck hzk
            (with_reducible refine kv.mono ?_)
            rintro e w3 ⟨vv, rfl, F3, rows3, d, hs3, hst⟩
            have hlt3 : ∀ b, Gb F3 A Sb M b → Gb Fw A Sb M b ∨ wr.heap.size ≤ b := fun b hb => by
              rcases hb with q | q
              · exact (hs3.gw b q).imp .inl id
              · exact .inl (.inr q)
            have hW3 : LwW w W A Sb M 60 len1 T t u (u + 1) (Whp.rmv S d) False F3 rows3 w3 := ⟨hs3.wl, hs3.wz, hs3.dj, hs3.wi, fun b hb => by
              rcases hlt3 b hb with q | q
              · exact HWW.out.nw b q
              · exact Nat.le_trans HQ.out.size q⟩
            have hH3 := HHH.out.fp hs3.fp HAP.out
            have hap3 : ∀ b, Fh b → ¬ Gb F3 A Sb M b := fun b hb q => by
              rcases hlt3 b q with r | r
              · exact HAP.out b hb r
              · have := HHH.out.he.Fl b hb; omega
            have hq3 := fp_q HQ.out hs3.fp HWW.out.nw
            have hgf : ∀ g, vv.ownBlock = some g → ¬ Fh g := fun g hg q => by
              have h1 := (hs3.ou.new g hg).1
              have h2 := HHH.out.he.Fl g q
              omega
            have hdl : d.length ≤ 60 := Nat.le_trans (drains_len hs3.dr HSS.out) hl1
            have hlen : ∀ w' : World, (Builtin.len_ #[36] 3 #[vv]).run Tryd.prog w' = .ok (.int .i64 (d.length : Int)) w' := by
              intro w'
              rcases hs3.ou.own.2 with ⟨rfl, h0⟩ | ⟨g, cap, cur, rfl, _⟩
              · rw [h0]; kernel_rfl
              · generalize d.length = n; kernel_rfl
            have HL3 : Hid (L3 w W A Sb M H Mh len1 T t u S F3 rows3 Fh d vv (.int .i64 0) w3) := Lib.hid ⟨0, v, l, rfl, Nat.zero_le _, hW3, (by rw [List.take_zero, Whp.rmv_nil]; exact hH3), hs3.ou.own, hq3⟩
            have HDR := Lib.hid hs3.dr
            have HDL := Lib.hid hdl
            have HLE : Hid (∀ i ∈ d, t i ≤ u) := Lib.hid (by have := hs3.le; intro i hi; have := this i hi; have := HUE.out; omega)
            have HST : Hid (∀ i, Whp.rmv S d i = true → u + 1 ≤ t i) := Lib.hid (by intro i hi; have := hst i hi; have := HUE.out; omega)
            have HAP3 := Lib.hid hap3
            have HGF := Lib.hid hgf
            obtain ⟨N, hN⟩ : ∃ N, d.length = N := ⟨_, rfl⟩
            have HN := Lib.hid hN
            rw [hN] at hlen hdl
            have yN : (N : Int) ≤ 60 := by omega
            clear hlt3 hW3 hH3 hap3 hq3 hgf hs3 hst kv hN
            obtain ⟨wb, rfl⟩ : ∃ wb : World, wb = wr := ⟨_, rfl⟩
            go_wp2_with fail
            go_loopw [18] (fun a wr => L3 w W A Sb M H Mh len1 T t u S F3 rows3 Fh d vv a wr) (fun a _ => N - (intOf a).toNat)
            case atStart => exact HL3.out
            case round =>
              clear HL3
              obtain ⟨i, v', l', rfl, hi, hW, hH, hown, hq⟩ := hrel
              rw [HN.out] at hi
              by_cases hiN : i < N
              · have zi : decide (i < N) = true := decide_eq_true hiN
                have hid : i < d.length := by rw [HN.out]; exact hiN
                obtain ⟨x, hx⟩ : ∃ x, d[i] = x := ⟨_, rfl⟩
                obtain ⟨hxS, hmin⟩ := drains_at HDR.out i hid
                rw [hx] at hxS hmin
                have hxn : x < len1 := HSS.out x (rmv_sub hxS)
                obtain ⟨hl0, hg0⟩ := hH.hs.first hH.hp hxS hmin
                have hl60 : l'.length ≤ 60 := Nat.le_trans (hH.len (fun i hi => HSS.out i (rmv_sub hi))) hl1
                have kp := pop_ok hH.he ⟨hl0, hl60⟩ hH.hp
                rw [hg0, show (en t x).id = (x : Int) from rfl] at kp
                have hxu : t x ≤ u := HLE.out x (by rw [← hx]; exact List.getElem_mem _)
                obtain ⟨g, cap, hv, _, _⟩ := hown.form (by omega)
                rw [HN.out] at hv
                subst hv
                obtain ⟨q0, q1⟩ := fcs_cell (t := t) (idf := idn) d i hid
                rw [hx] at q0 q1
                have c0 := hown.cells (g := g) rfl _ _ q0
                have c1 := hown.cells (g := g) rfl _ _ q1
                rw [Addr.add_lit] at c0 c1
                simp only [Nat.zero_add] at c0 c1
                unfold idn at c1
                have lg : g < wr.heap.size := (hown.lt g rfl).2
                rcases HR1.out with h0 | ⟨b1, o1, rfl, hb1, hc1⟩
                · omega
                obtain ⟨cx, hzx⟩ := hc1 x hxn
                have etx := HTT.out x
                obtain ⟨zx, hzz⟩ : ∃ zx, z1 x = zx := ⟨_, rfl⟩
                rw [hzz] at cx hzx etx
                have ztx : (((t x : Nat) : Int) != (now : Int) + 1 + (zx : Int)) = false := bne_f (by omega)
                have zle : decide (len1 ≤ x) = false := decide_eq_false (by omega)
                have zgt : decide (U < ((t x : Nat) : Int)) = false := decide_eq_false (by have := HUU.out; omega)
                have yx : (0 : Int) ≤ (x : Int) ∧ (x : Int) < (len1 : Int) := by omega
                have yzx : (0 : Int) ≤ (zx : Int) ∧ (zx : Int) < 4294967296 := by omega
                have yi : (0 : Int) ≤ (i : Int) ∧ (i : Int) < (N : Int) := by omega
                have ytx : (0 : Int) ≤ ((t x : Nat) : Int) := by omega
                have w1 : IntKind.i64.wrap ((now : Int) + 1) = (now : Int) + 1 := by rw [IntKind.wrap_i64]; omega
                have w3 : IntKind.i64.wrap (now : Int) = (now : Int) := by rw [IntKind.wrap_i64]; omega
                have w5 : IntKind.i64.wrap (zx : Int) = (zx : Int) := by rw [IntKind.wrap_i64]; omega
                have zx0 : decide ((x : Int) < 0) = false := decide_eq_false (by omega)
                have w2 : IntKind.i64.wrap ((now : Int) + 1 + (zx : Int)) = (now : Int) + 1 + (zx : Int) := by rw [IntKind.wrap_i64]; omega
                have HW := Lib.hid hW
                have HH := Lib.hid hH
                have HOWN := Lib.hid hown
                have HQ2 := Lib.hid hq
                have HL0 := Lib.hid hl0
                have HG0 := Lib.hid hg0
                have HTK : Hid (d.take (i + 1) = d.take i ++ [x]) := Lib.hid (by rw [List.take_succ_eq_append_getElem hid, hx])
                clear hW hH hown hq hl0 hg0 hxS hmin hl60 hx hid hc1 etx hzz hzx hxu q0 q1
                go_wp2_with fail
                (with_reducible refine kp.mono ?_)
                rintro e w4 ⟨rfl, htk⟩
                have hf4 : Fp Fh wr w4 := by obtain ⟨v5, l5, _, _, _, q⟩ := htk; exact q
                have hq4 := fp_q HQ2.out hf4 HH.out.nh
                have k0 := (hf4.cell lg (HGF.out g rfl) (i * 2)).trans c0
                have k1 := (hf4.cell lg (HGF.out g rfl) (i * 2 + 1)).trans c1
                have kx := keepc hq4 cx
                have HNX : Hid (L3 w W A Sb M H Mh len1 T t u S F3 rows3 Fh d (.slice (some ⟨g, 0, none⟩) N cap) (.int .i64 (((i + 1 : Nat)) : Int)) w4) := Lib.hid (by
                  obtain ⟨v5, l5, p1, p2⟩ := HH.out.popped HL0.out HG0.out htk
                  rw [rmv_rem, ← HTK.out] at p1
                  exact ⟨i + 1, v5, l5, rfl, by rw [HN.out]; omega, HW.out.fp hf4 (fun b hb q => HAP3.out b q hb), p1, hf4.owns HOWN.out HGF.out, hq4⟩)
                clear htk hf4 hq4 c0 c1 cx kp
                go_wp2_with fail
                go_quiet (fail)
                clear w1 w2 w3 w5
                go_wp2_with fail
                go_roundw
                case rel =>
                  obtain ⟨i5, v5, l5, r1, r2, r3, r4, r5, r6⟩ := HNX.out
                  have qn : Q w4 (w4.drewN nq) := (Q.refl w4).drewN nq
                  exact ⟨i5, v5, l5, r1, r2, r3.fp (G := fun _ => False) (Fp.ofQ qn) (fun _ _ => id), r4.fp (G := fun _ => False) (Fp.ofQ qn) (fun _ _ => id), (Fp.ofQ (F := fun _ => False) qn).owns r5 (fun _ _ => id), r6.trans qn⟩
                case measure => simp [intOf]; omega
              · obtain rfl : N = i := by omega
                have zi : decide (N < N) = false := decide_eq_false (by omega)
                have htk : d.take N = d := List.take_of_length_le (by rw [HN.out]; exact Nat.le_refl _)
                rw [htk] at hH
                have hSn : ∀ i, Whp.rmv S d i = true → i < len1 := fun i hi => HSS.out i (rmv_sub hi)
                have HNX : Hid (L2 w W A Sb M H Mh len1 len2 t now (.int .i64 U) (.int .i64 (((k + 1 : Nat)) : Int)) wr) := Lib.hid ⟨k + 1, u, Whp.rmv S d, by rw [HUU.out], rfl, by omega, by have := HUE.out; have := Hτ.out.1; omega, by have := HUE.out; have := Hτ.out.2; omega, ⟨T, F3, rows3, Fh, v', l', hW, hH, HAP3.out, hq⟩, hSn, fun q => absurd q (by omega)⟩
                by_cases hl0 : l'.length = 0
                · have kt := top_no hH.he hl0
                  clear hW hH hown hq hl0 htk hSn
                  go_wp2_with (go_at_call 12; (with_reducible refine kt.mono ?_); rintro e w5 ⟨rfl, rfl⟩)
                  go_roundw
                  case rel => exact HNX.out
                  case measure => simp [intOf]; omega
                · have kt := top_yes hH.he (by omega)
                  obtain ⟨x, hxS, hg0⟩ := hH.hs.top hH.hp (by omega)
                  rw [hg0, show (en t x).id = (x : Int) from rfl] at kt
                  have hxn := hSn x hxS
                  have hxu := HST.out x hxS
                  rcases HR1.out.q hq with h0 | ⟨b1, o1, rfl, hb1, hc1⟩
                  · omega
                  obtain ⟨cx, hzx⟩ := hc1 x hxn
                  have etx := HTT.out x
                  obtain ⟨zx, hzz⟩ : ∃ zx, z1 x = zx := ⟨_, rfl⟩
                  rw [hzz] at cx hzx etx
                  have zle : decide (len1 ≤ x) = false := decide_eq_false (by omega)
                  have zgt : decide ((now : Int) + 1 + (zx : Int) ≤ U) = false := decide_eq_false (by have := HUU.out; omega)
                  have yx : (0 : Int) ≤ (x : Int) ∧ (x : Int) < (len1 : Int) := by omega
                  have yzx : (0 : Int) ≤ (zx : Int) ∧ (zx : Int) < 4294967296 := by omega
                  clear hW hH hown hq hl0 htk hSn hxS hg0 hxu hc1 etx hzz hzx
                  go_wp2_with (go_at_call 12; (with_reducible refine kt.mono ?_); rintro e w5 ⟨rfl, rfl⟩)
                  go_roundw
                  case rel => exact HNX.out
                  case measure => simp [intOf]; omega
          · have zk2 : decide (k < len2) = false := decide_eq_false hk2
            clear hW hH hap hS hτ1 hτ2 hq hfin
            go_wp2_with fail
            generalize hU : (τ : Int) + 8589934592 = U
            have hs := AdS.start (u := τ + 8589934592) HWW.out.wl HWW.out.wz HWW.out.wi HWW.out.dj (by omega) (HT.out.later HQ.out)
            have htb : ∀ i, i < len1 → t i < 1099511627776 := fun i hi => by
              rcases HR1.out with h0 | ⟨b1, o1, _, _, hc1⟩
              · omega
              · have := (hc1 i hi).2
                have := HTT.out i
                omega
            have kv := advance_ok hs hl1 HSS.out htb ⟨by omega, by omega⟩
            rw [show ((τ + 8589934592 : Nat) : Int) = U from by omega] at kv
            obtain ⟨u, hu⟩ : ∃ u, τ + 8589934592 = u := ⟨_, rfl⟩
            rw [hu] at kv
            have hUu : U = (u : Int) := by omega
            have HUU := Lib.hid hUu
            have HUE := Lib.hid hu
            have yU : (0 : Int) ≤ U ∧ U < 274877906944 := by omega
            clear hs htb hU hu hUu zk2
            (with_reducible refine kv.mono ?_)
            rintro e w3 ⟨vv, rfl, F3, rows3, d, hs3, hst⟩
            have hlt3 : ∀ b, Gb F3 A Sb M b → Gb Fw A Sb M b ∨ wr.heap.size ≤ b := fun b hb => by
              rcases hb with q | q
              · exact (hs3.gw b q).imp .inl id
              · exact .inl (.inr q)
            have hW3 : LwW w W A Sb M 60 len1 T t u (u + 1) (Whp.rmv S d) False F3 rows3 w3 := ⟨hs3.wl, hs3.wz, hs3.dj, hs3.wi, fun b hb => by
              rcases hlt3 b hb with q | q
              · exact HWW.out.nw b q
              · exact Nat.le_trans HQ.out.size q⟩
            have hH3 := HHH.out.fp hs3.fp HAP.out
            have hap3 : ∀ b, Fh b → ¬ Gb F3 A Sb M b := fun b hb q => by
              rcases hlt3 b q with r | r
              · exact HAP.out b hb r
              · have := HHH.out.he.Fl b hb; omega
            have hq3 := fp_q HQ.out hs3.fp HWW.out.nw
            have hgf : ∀ g, vv.ownBlock = some g → ¬ Fh g := fun g hg q => by
              have h1 := (hs3.ou.new g hg).1
              have h2 := HHH.out.he.Fl g q
              omega
            have hdl : d.length ≤ 60 := Nat.le_trans (drains_len hs3.dr HSS.out) hl1
            have hlen : ∀ w' : World, (Builtin.len_ #[36] 3 #[vv]).run Tryd.prog w' = .ok (.int .i64 (d.length : Int)) w' := by
              intro w'
              rcases hs3.ou.own.2 with ⟨rfl, h0⟩ | ⟨g, cap, cur, rfl, _⟩
              · rw [h0]; kernel_rfl
              · generalize d.length = n; kernel_rfl
            have HL3 : Hid (L3 w W A Sb M H Mh len1 T t u S F3 rows3 Fh d vv (.int .i64 0) w3) := Lib.hid ⟨0, v, l, rfl, Nat.zero_le _, hW3, (by rw [List.take_zero, Whp.rmv_nil]; exact hH3), hs3.ou.own, hq3⟩
            have HDR := Lib.hid hs3.dr
            have HDL := Lib.hid hdl
            have HLE : Hid (∀ i ∈ d, t i ≤ u) := Lib.hid (by have := hs3.le; intro i hi; have := this i hi; have := HUE.out; omega)
            have HST : Hid (∀ i, Whp.rmv S d i = true → u + 1 ≤ t i) := Lib.hid (by intro i hi; have := hst i hi; have := HUE.out; omega)
            have HAP3 := Lib.hid hap3
            have HGF := Lib.hid hgf
            obtain ⟨N, hN⟩ : ∃ N, d.length = N := ⟨_, rfl⟩
            have HN := Lib.hid hN
            rw [hN] at hlen hdl
            have yN : (N : Int) ≤ 60 := by omega
            clear hlt3 hW3 hH3 hap3 hq3 hgf hs3 hst kv hN
            obtain ⟨wb, rfl⟩ : ∃ wb : World, wb = wr := ⟨_, rfl⟩
            go_wp2_with fail
            go_loopw [18] (fun a wr => L3 w W A Sb M H Mh len1 T t u S F3 rows3 Fh d vv a wr) (fun a _ => N - (intOf a).toNat)
            case atStart => exact HL3.out
            case round =>
              clear HL3
              obtain ⟨i, v', l', rfl, hi, hW, hH, hown, hq⟩ := hrel
              rw [HN.out] at hi
              by_cases hiN : i < N
              · have zi : decide (i < N) = true := decide_eq_true hiN
                have hid : i < d.length := by rw [HN.out]; exact hiN
                obtain ⟨x, hx⟩ : ∃ x, d[i] = x := ⟨_, rfl⟩
                obtain ⟨hxS, hmin⟩ := drains_at HDR.out i hid
                rw [hx] at hxS hmin
                have hxn : x < len1 := HSS.out x (rmv_sub hxS)
                obtain ⟨hl0, hg0⟩ := hH.hs.first hH.hp hxS hmin
                have hl60 : l'.length ≤ 60 := Nat.le_trans (hH.len (fun i hi => HSS.out i (rmv_sub hi))) hl1
                have kp := pop_ok hH.he ⟨hl0, hl60⟩ hH.hp
                rw [hg0, show (en t x).id = (x : Int) from rfl] at kp
                have hxu : t x ≤ u := HLE.out x (by rw [← hx]; exact List.getElem_mem _)
                obtain ⟨g, cap, hv, _, _⟩ := hown.form (by omega)
                rw [HN.out] at hv
                subst hv
                obtain ⟨q0, q1⟩ := fcs_cell (t := t) (idf := idn) d i hid
                rw [hx] at q0 q1
                have c0 := hown.cells (g := g) rfl _ _ q0
                have c1 := hown.cells (g := g) rfl _ _ q1
                rw [Addr.add_lit] at c0 c1
                simp only [Nat.zero_add] at c0 c1
                unfold idn at c1
                have lg : g < wr.heap.size := (hown.lt g rfl).2
                rcases HR1.out with h0 | ⟨b1, o1, rfl, hb1, hc1⟩
                · omega
                obtain ⟨cx, hzx⟩ := hc1 x hxn
                have etx := HTT.out x
                obtain ⟨zx, hzz⟩ : ∃ zx, z1 x = zx := ⟨_, rfl⟩
                rw [hzz] at cx hzx etx
                have ztx : (((t x : Nat) : Int) != (now : Int) + 1 + (zx : Int)) = false := bne_f (by omega)
                have zle : decide (len1 ≤ x) = false := decide_eq_false (by omega)
                have zgt : decide (U < ((t x : Nat) : Int)) = false := decide_eq_false (by have := HUU.out; omega)
                have yx : (0 : Int) ≤ (x : Int) ∧ (x : Int) < (len1 : Int) := by omega
                have yzx : (0 : Int) ≤ (zx : Int) ∧ (zx : Int) < 4294967296 := by omega
                have yi : (0 : Int) ≤ (i : Int) ∧ (i : Int) < (N : Int) := by omega
                have ytx : (0 : Int) ≤ ((t x : Nat) : Int) := by omega
                have w1 : IntKind.i64.wrap ((now : Int) + 1) = (now : Int) + 1 := by rw [IntKind.wrap_i64]; omega
                have w3 : IntKind.i64.wrap (now : Int) = (now : Int) := by rw [IntKind.wrap_i64]; omega
                have w5 : IntKind.i64.wrap (zx : Int) = (zx : Int) := by rw [IntKind.wrap_i64]; omega
                have zx0 : decide ((x : Int) < 0) = false := decide_eq_false (by omega)
                have w2 : IntKind.i64.wrap ((now : Int) + 1 + (zx : Int)) = (now : Int) + 1 + (zx : Int) := by rw [IntKind.wrap_i64]; omega
                have HW := Lib.hid hW
                have HH := Lib.hid hH
                have HOWN := Lib.hid hown
                have HQ2 := Lib.hid hq
                have HL0 := Lib.hid hl0
                have HG0 := Lib.hid hg0
                have HTK : Hid (d.take (i + 1) = d.take i ++ [x]) := Lib.hid (by rw [List.take_succ_eq_append_getElem hid, hx])
                clear hW hH hown hq hl0 hg0 hxS hmin hl60 hx hid hc1 etx hzz hzx hxu q0 q1
                go_wp2_with fail
                (with_reducible refine kp.mono ?_)
                rintro e w4 ⟨rfl, htk⟩
                have hf4 : Fp Fh wr w4 := by obtain ⟨v5, l5, _, _, _, q⟩ := htk; exact q
                have hq4 := fp_q HQ2.out hf4 HH.out.nh
                have k0 := (hf4.cell lg (HGF.out g rfl) (i * 2)).trans c0
                have k1 := (hf4.cell lg (HGF.out g rfl) (i * 2 + 1)).trans c1
                have kx := keepc hq4 cx
                have HNX : Hid (L3 w W A Sb M H Mh len1 T t u S F3 rows3 Fh d (.slice (some ⟨g, 0, none⟩) N cap) (.int .i64 (((i + 1 : Nat)) : Int)) w4) := Lib.hid (by
                  obtain ⟨v5, l5, p1, p2⟩ := HH.out.popped HL0.out HG0.out htk
                  rw [rmv_rem, ← HTK.out] at p1
                  exact ⟨i + 1, v5, l5, rfl, by rw [HN.out]; omega, HW.out.fp hf4 (fun b hb q => HAP3.out b q hb), p1, hf4.owns HOWN.out HGF.out, hq4⟩)
                clear htk hf4 hq4 c0 c1 cx kp
                go_wp2_with fail
                go_quiet (fail)
                clear w1 w2 w3 w5
                go_wp2_with fail
                go_roundw
                case rel =>
                  obtain ⟨i5, v5, l5, r1, r2, r3, r4, r5, r6⟩ := HNX.out
                  have qn : Q w4 (w4.drewN nq) := (Q.refl w4).drewN nq
                  exact ⟨i5, v5, l5, r1, r2, r3.fp (G := fun _ => False) (Fp.ofQ qn) (fun _ _ => id), r4.fp (G := fun _ => False) (Fp.ofQ qn) (fun _ _ => id), (Fp.ofQ (F := fun _ => False) qn).owns r5 (fun _ _ => id), r6.trans qn⟩
                case measure => simp [intOf]; omega
              · obtain rfl : N = i := by omega
                have zi : decide (N < N) = false := decide_eq_false (by omega)
                have htk : d.take N = d := List.take_of_length_le (by rw [HN.out]; exact Nat.le_refl _)
                rw [htk] at hH
                have hSn : ∀ i, Whp.rmv S d i = true → i < len1 := fun i hi => HSS.out i (rmv_sub hi)
                have HNX : Hid (L2 w W A Sb M H Mh len1 len2 t now (.int .i64 U) (.int .i64 (((k + 1 : Nat)) : Int)) wr) := Lib.hid ⟨k + 1, u, Whp.rmv S d, by rw [HUU.out], rfl, by omega, by have := HUE.out; have := Hτ.out.1; omega, by have := HUE.out; have := Hτ.out.2; omega, ⟨T, F3, rows3, Fh, v', l', hW, hH, HAP3.out, hq⟩, hSn, fun q i => by
              cases hr : Whp.rmv S d i with
              | false => rfl
              | true =>
                exfalso
                have h1 := HST.out i hr
                have h2 := hSn i hr
                have h3 := HUE.out
                have h4 := Hτ.out.1
                rcases HR1.out with h0 | ⟨_, _, _, _, hc⟩
                · omega
                · have h5 := (hc i h2).2
                  have h6 := HTT.out i
                  omega⟩
                by_cases hl0 : l'.length = 0
                · have kt := top_no hH.he hl0
                  clear hW hH hown hq hl0 htk hSn
                  go_wp2_with (go_at_call 12; (with_reducible refine kt.mono ?_); rintro e w5 ⟨rfl, rfl⟩)
                  go_roundw
                  case rel => exact HNX.out
                  case measure => simp [intOf]; omega
                · have kt := top_yes hH.he (by omega)
                  obtain ⟨x, hxS, hg0⟩ := hH.hs.top hH.hp (by omega)
                  rw [hg0, show (en t x).id = (x : Int) from rfl] at kt
                  have hxn := hSn x hxS
                  have hxu := HST.out x hxS
                  rcases HR1.out.q hq with h0 | ⟨b1, o1, rfl, hb1, hc1⟩
                  · omega
                  obtain ⟨cx, hzx⟩ := hc1 x hxn
                  have etx := HTT.out x
                  obtain ⟨zx, hzz⟩ : ∃ zx, z1 x = zx := ⟨_, rfl⟩
                  rw [hzz] at cx hzx etx
                  have zle : decide (len1 ≤ x) = false := decide_eq_false (by omega)
                  have zgt : decide ((now : Int) + 1 + (zx : Int) ≤ U) = false := decide_eq_false (by have := HUU.out; omega)
                  have yx : (0 : Int) ≤ (x : Int) ∧ (x : Int) < (len1 : Int) := by omega
                  have yzx : (0 : Int) ≤ (zx : Int) ∧ (zx : Int) < 4294967296 := by omega
                  clear hW hH hown hq hl0 htk hSn hxS hg0 hxu hc1 etx hzz hzx
                  go_wp2_with (go_at_call 12; (with_reducible refine kt.mono ?_); rintro e w5 ⟨rfl, rfl⟩)
                  go_roundw
                  case rel => exact HNX.out
                  case measure => simp [intOf]; omega
        · have hk3 : k = len2 + 1 := by omega
          have hSf := hfin hk3
          have hl := hH.hs.nil hSf
          have kl := hlen_ok hH.he
          rw [hl] at kl
          have kl' : Calls Tryd.prog 13 #[.pointer (some ⟨H, 0, none⟩)] wr fun e w' => e = .returned (.int .i64 0) ∧ wr = w' := kl
          have kw := wlen_ok hW.wl hW.wz hSf
          have kx := works_ok wr (HT.out.later hq)
          have z0 : decide (k ≤ len2) = false := decide_eq_false hkl
          clear hW hH hap hS hfin hSf hl kl hk3 hτ1 hτ2 hq
          go_wp2_with (first
            | (go_at_call 13; (with_reducible refine kl'.mono ?_); rintro e w5 ⟨rfl, rfl⟩)
            | (go_at_call 14; (with_reducible refine kw.mono ?_); rintro e w5 ⟨rfl, rfl⟩)
            | (go_at_call 4; (with_reducible refine kx.mono ?_); rintro e w6 ⟨rfl, hq6⟩))
          go_ret
          exact ⟨rfl, HQ.out.trans hq6⟩
end Go.Proofs.YtnmgcjkffeeapaaDoor

