/- The contract of wheel.Advance. -/
import Derived.Test.YtnmgcjkffeeapaaDoorWhL
import Derived.Deep.LoopGhost
import Derived.Deep.AppendLies
namespace Go.Proofs.YtnmgcjkffeeapaaDoor
open Go.RowKit
set_option linter.unusedVariables false
set_option linter.unusedSimpArgs false
theorem AdS.now {F0 F : Nat → Prop} {W A Sb M N n : Nat} {T t : Nat → Nat} {idf : Nat → Int} {now u : Nat} {S0 : Nat → Bool} {w0 w : World} {f : Nat} {rows : Nat → List Nat} {d : List Nat} {v : Value} (h : AdS F0 W A Sb M N n T t idf now u S0 w0 F f rows d v w) (x : Nat) : AdS F0 W A Sb M N n T t idf x u S0 w0 F f rows d v (w.setCell ⟨W, 0, none⟩ (.int .i64 (x : Int))) := by
  have f1 : Fp F w (w.setCell ⟨W, 0, none⟩ (.int .i64 (x : Int))) := Fp.ofFr ((Fr.refl W w).setCell 0 _) h.wl.FW
  exact ⟨h.wl.setNow x, h.wz.fp f1 h.dj.dA h.dj.dS h.dj.dM, h.wi, h.dj, h.ft, h.dr, h.le, h.ou.fp (f1.mono (fun x hx => .inl hx)) (Gw.refl _ _), h.fp.new f1 (fun y hy => (h.gw y hy).imp .inl id), h.gw, h.tb.fp f1 h.dj.z0.1⟩
def AdX (F0 : Nat → Prop) (W A Sb M N n : Nat) (T t : Nat → Nat) (idf : Nat → Int) (now u : Nat) (S0 : Nat → Bool) (w0 : World) (k : Nat) (a : Value) (wr : World) : Prop :=
  ∃ F f rows d, AdS F0 W A Sb M N n T t idf now u S0 w0 F f rows d a wr ∧ Whp.mes t f n (Whp.rmv S0 d) ≤ k
def AdP (F0 : Nat → Prop) (W A Sb M N n : Nat) (T t : Nat → Nat) (idf : Nat → Int) (u : Nat) (S0 : Nat → Bool) (w0 : World) (e : Ending) (w : World) : Prop := ∃ v, e = .returned (.tuple #[v, .int .i64 0]) ∧ Advd F0 W A Sb M N n T t idf u S0 w0 v w
theorem Wl.cells {F : Nat → Prop} {W A M n now f seq : Nat} {T t : Nat → Nat} {idf : Nat → Int} {rows : Nat → List Nat} {w : World} (h : Wl F W A M n T t idf now f seq rows w) : w.cell? ⟨W, 0, none⟩ = some (.int .i64 (now : Int)) ∧ w.frozen? ⟨W, 0, none⟩ = false ∧ w.cell? ⟨W, 1, none⟩ = some (.int .i64 (f : Int)) := by
  obtain ⟨vs, us, h1, _⟩ := h
  exact ⟨h1.c0, h1.fr 0 (by omega), h1.c1⟩
set_option maxRecDepth 100000 in
set_option maxHeartbeats 8000000 in
theorem advance_ok {F0 : Nat → Prop} {W A Sb M N n : Nat} {T t : Nat → Nat} {idf : Nat → Int} {now u f : Nat} {S0 : Nat → Bool} {w : World} {rows : Nat → List Nat} (h : AdS F0 W A Sb M N n T t idf now u S0 w F0 f rows [] (.slice none 0 0) w) (hn : n ≤ 60) (hS : ∀ i, S0 i = true → i < n) (ht : ∀ i, i < n → t i < 1099511627776) (hu : now ≤ u ∧ u < 549755813888) :
    Calls Tryd.prog 10 #[.pointer (some ⟨W, 0, none⟩), .int .i64 (u : Int)] w fun e w' => AdP F0 W A Sb M N n T t idf u S0 w e w' := by
  have kv := valid_ok h.wl
  obtain ⟨c0, z0, _⟩ := h.wl.cells
  have HR : Hid (AdX F0 W A Sb M N n T t idf now u S0 w (Whp.mes t f n S0) (.slice none 0 0) w) := Lib.hid ⟨F0, f, rows, [], h, by rw [Whp.rmv_nil]; exact Nat.le_refl _⟩
  have HN60 := Lib.hid hn
  have HZ0 : Hid (0 < w.heap.size) := Lib.hid (Nat.lt_of_le_of_lt (Nat.zero_le _) (h.wl.Fl _ h.wl.FW))
  have HSB := Lib.hid hS
  have HT := Lib.hid ht
  have y0 : decide ((u : Int) < 0) = false := by simp
  have y1 : decide ((4611686018427387904 : Int) < (u : Int)) = false := decide_eq_false (by omega)
  have y2 : decide (u < now) = false := decide_eq_false (by omega)
  have y3 : (u : Int) < 549755813888 := by omega
  clear h hn hS ht hu
  go_enter Tryd.func10, Tryd.ntmps10
  go_wp2_with (go_at_call 16; (with_reducible refine kv.mono ?_); rintro e w1 ⟨rfl, rfl⟩)
  go_loopg [6] (Whp.mes t f n S0) (fun k a wr => AdX F0 W A Sb M N n T t idf now u S0 w k a wr)
  case atStart => exact HR.out
  case round =>
    clear HR c0 z0 kv
    obtain ⟨F, f, rows, d, hs, hk⟩ := hrel
    have hf40 : f < 1099511627776 := by have := hs.ft; omega
    have y4 : (f : Int) < 1099511627776 := by omega
    have kf := first_wk hs.wl hs.tb hs.wi HN60.out HT.out hf40
    have HS := Lib.hid hs
    have HK := Lib.hid hk
    clear hs hk
    go_wp2_with fail
    (with_reducible refine kf.mono ?_)
    rintro e w1 ⟨a, b, c, dd, rfl, hq, hc⟩
    have hs1 := HS.out.q hq
    clear kf HS
    rcases hc with ⟨rfl, j, hj, hne, hlow, rfl, rfl, rfl⟩ | ⟨rfl, hlow, rfl, rfl, m, hm, hmin, rfl⟩ | ⟨rfl, hall⟩
    · have hmr := min_row hs1.wi hlow
      have hge : ∀ i, Whp.rmv S0 d i = true → Whp.beg j f ≤ t i := fun i hi => Whp.beg_le (hs1.wi.2 i hi) hj (hmr i hi)
      obtain ⟨x, hx⟩ : ∃ x, x ∈ rows j := List.exists_mem_of_ne_nil _ hne
      obtain ⟨hxS, hxl⟩ := ((hs1.wi.1 j).2 x).1 hx
      have hxl' : Whp.loc (t x) f = j := hxl
      clear hxl
      obtain ⟨q1, q2, q3⟩ := Whp.loc_beg (hs1.wi.2 x hxS) hj hxl'
      have hxn : x < n := HSB.out x ((drains_nd hs1.dr).2 x |> fun _ => by
        unfold Whp.rmv at hxS
        simp at hxS
        exact hxS.1)
      by_cases hle : Whp.beg j f ≤ u
      · have z1 : decide (u < Whp.beg j f) = false := decide_eq_false (by omega)
        by_cases hj64 : j < 64
        · have hfi := fun (d2 : List Nat) hp hs2 => Whp.fire (d := d2) hs1.wi hj64 hmr hp hs2
          obtain ⟨at', hat⟩ : ∃ b, Whp.beg j f = b := ⟨_, rfl⟩
          have HAT := Lib.hid hat
          rw [hat] at z1 hle q1 q2 q3
          have e0 : ((j / 64 : Nat) : Int) = 0 := by omega
          have e1 : ((j % 64 : Nat) : Int) = (j : Int) := by omega
          rw [e0, e1, hat]
          have ke : Calls Tryd.prog 24 #[.pointer (some ⟨W, 0, none⟩), .int .i64 0, .int .i64 (j : Int)] _ _ := empty_ok hs1.wl 0 j (by omega) hj64
          rw [show 64 * 0 + j = j from by omega] at ke
          have HS1 := Lib.hid hs1
          have HFI := Lib.hid hfi
          have HX := Lib.hid hx
          have HXN := Lib.hid hxn
          have HXS := Lib.hid hxS
          have HQ3 := Lib.hid q3
          have HLE := Lib.hid hle
          have y5 : (at' : Int) < 549755813888 := by omega
          clear hs1 hfi hmr hge hne hlow hx hxS hxl' hxn q1 q2 q3 hat e0 e1
          go_wp2_with fail
          (with_reducible refine ke.mono ?_)
          rintro e w2 ⟨lv, rfl, hE⟩
          have hlen : 0 < (rows j).length := List.length_pos_of_mem HX.out
          have hgc : ∃ g cap, lv = .slice (some ⟨g, 0, none⟩) (rows j).length cap := by
            obtain ⟨F3, e1, e2, _⟩ := hE
            rcases e2.2 with ⟨_, q⟩ | ⟨g, cap, cur, q, _⟩
            · omega
            · exact ⟨g, cap, q⟩
          obtain ⟨g, cap, rfl⟩ := hgc
          have ks : Calls Tryd.prog 25 #[.slice (some ⟨g, 0, none⟩) (rows j).length cap, .func (.func 26) #[] #[]] w2 fun e w' => e = .returned (.tuple #[]) ∧ ∃ d : List Nat, d.Perm (rows j) ∧ d.Pairwise (Whp.bef t) ∧ w'.ownsRow 0 61 1 (.slice (some ⟨g, 0, none⟩) d.length cap) d.length (d.map fun i => Value.pointer (some ⟨T i, 0, none⟩)) ∧ Fp (fun b => b = g) w2 w' := by
            obtain ⟨F3, e1, e2, e3, _⟩ := hE
            refine sort_ok T t idf n (rows j) g cap w2 e2 (HS1.out.wl.mem j) (HS1.out.wi.1 j).1 hlen (Nat.le_trans (nodup_le n _ (HS1.out.wi.1 j).1 (HS1.out.wl.mem j)) HN60.out) (fun i hi => (e1.tm hi).1) (fun i hi q => ?_)
            exact (e3 g rfl).2 (q ▸ (e1.tm hi).2.1)
          have HE := Lib.hid hE
          clear hE ke
          go_wp2_with fail
          (with_reducible refine ks.mono ?_)
          rintro e w3 ⟨rfl, dl, hperm, hpw, hown, hf3⟩
          have hdl : dl.length = (rows j).length := hperm.length_eq
          obtain ⟨F2, hst, hF2, hG2⟩ := FiR.start HS1.out HE.out hdl hown hf3
          have hfi := HFI.out dl hperm hpw
          rw [← hdl]
          have HD := Lib.hid hfi
          have HST := Lib.hid hst
          have HF2 := Lib.hid hF2
          have HG2 := Lib.hid hG2
          have hmem : ∀ i ∈ dl, i < n := fun i hi => HS1.out.wl.mem j i (hperm.mem_iff.1 hi)
          have HM := Lib.hid hmem
          have hxd : x ∈ dl := hperm.mem_iff.2 HX.out
          have HXD := Lib.hid hxd
          have hdd : (d ++ dl).length ≤ n := drains_len (Whp.Drains.append HS1.out.dr hfi.1) HSB.out
          have HDD := Lib.hid hdd
          obtain ⟨L, hL⟩ : ∃ L, dl.length = L := ⟨_, rfl⟩
          have HL := Lib.hid hL
          have hL60 : (L : Int) ≤ 60 := by
            have := HN60.out
            rw [List.length_append] at hdd
            omega
          rw [hL]
          clear hperm hpw hown hf3 hst hF2 hG2 hfi hmem hxd ks hlen HE HFI hdl hdd hL
          obtain ⟨i0, ki, kz0, kz1, kz2⟩ := info_parts info42
          go_wp2_with fail
          go_loopw [6, 58] (fun a b wr => FiR F0 W A Sb M N n T t idf now f S0 w F2 (upd rows j []) d dl g cap a b wr) (fun _ b _ => L - (intOf b).toNat)
          case atStart => exact HST.out
          case round =>
            clear HST
            obtain ⟨k, rfl, hk, hw, hz, hou, hown, hne, hfp, htb⟩ := hrel
            rw [HL.out] at hk
            by_cases hkL : k < L
            · have hkl : k < dl.length := by rw [HL.out]; exact hkL
              have ck := row_ptr (by rw [HL.out] at hown ⊢; exact hown) k hkl
              obtain ⟨D, hD⟩ : ∃ D, d ++ dl.take k = D := ⟨_, rfl⟩
              obtain ⟨i, hi⟩ : ∃ i, dl[k] = i := ⟨_, rfl⟩
              rw [hi] at ck
              rw [hD] at hz hou
              have hDi : d ++ dl.take (k + 1) = D ++ [i] := by rw [List.take_succ_eq_append_getElem hkl, ← List.append_assoc, hD, hi]
              have him : i < n := by rw [← hi]; exact HM.out _ (List.getElem_mem _)
              obtain ⟨htm, fT, _⟩ := hw.tm him
              have x0 := htm.c0
              have x1 := htm.c1
              have lT := htm.lt
              have hSi : Whp.rmv S0 D i = true := by
                have h1 := (drains_nd (Whp.Drains.append HS1.out.dr HD.out.1)).1
                have h2 := (drains_nd (Whp.Drains.append HS1.out.dr HD.out.1)).2 i (by rw [← hi]; exact List.mem_append_right _ (List.getElem_mem _))
                have h3 : d ++ dl = D ++ dl.drop k := by rw [← hD, List.append_assoc, List.take_append_drop]
                rw [h3] at h1
                have h4 : i ∈ dl.drop k := by
                  rw [← hi]
                  exact List.mem_iff_getElem.2 ⟨0, by rw [List.length_drop]; omega, by simp⟩
                unfold Whp.rmv
                have h5 : i ∉ D := fun q => (List.nodup_append.1 h1).2.2 i q i h4 rfl
                simp [h2, h5]
              have hDl : D.length + 1 ≤ 60 := by
                have h1 := HDD.out
                have h2 := HN60.out
                rw [List.length_append] at h1
                rw [← hD, List.length_append, List.length_take]
                omega
              have nT : ¬ u6.ownBlock = some (T i) := fun q => (hou.new _ q).2 (.inl fT)
              have HOW := Lib.hid hou.own
              have HOU := Lib.hid hou
              have HW := Lib.hid hw
              have HZ := Lib.hid hz
              have HOWN := Lib.hid hown
              have HNE := Lib.hid hne
              have HFP := Lib.hid hfp
              have HTB := Lib.hid htb
              have HDI := Lib.hid hDi
              have HSI := Lib.hid hSi
              have HTM := Lib.hid fT
              have n1 : wr.heap.size ≠ T i := by omega
              have y6 : (0 : Int) ≤ (k : Int) ∧ (k : Int) < (L : Int) := by omega
              obtain ⟨K, hK⟩ : ∃ K, D.length = K := ⟨_, rfl⟩
              rw [hK] at hDl HOW
              have HK2 := Lib.hid hK
              clear hw hz hou hown hne hfp htb hD hi hDi hSi htm fT hK
              go_wp2_with fail
              go_region_held3 (fun w' => w'.cell? ⟨T i, 0, none⟩ = some (.int .i64 (t i : Int)) ∧ w'.cell? ⟨T i, 1, none⟩ = some (.int .i64 (idf i))) (go_keep) (first
                 | (refine step_append_lies _ (by rfl) _ _ 36 (by rfl) 0 42 i0 (.agg #[.int .i64 0, .int .i64 0]) 2 16 Tryd.underlying36 ki kz0 kz1 kz2 rfl (by decide) u6 K (fcs t idf D) (by rfl) ?_ ⟨wr.heap.size, 0, none⟩ 1 1 [.int .i64 (t i : Int), .int .i64 (idf i)] (by rfl) rfl ?_ (by simp [Value.oneCell']) (by decide) ?_ ?_ (Nat.zero_le _) (wr.heap.size + 1) ?_ ?_
                    · exact (Fp.ofQ (F := fun _ => False) (w := wr) (by repeat (first | exact Q.refl _ | refine Q.drew ?_ | refine Q.drewN ?_ _ | refine Q.alloc ?_ _))).owns HOW.out (fun _ _ => id)
                    · exact World.news_of_block (heap_alloc_new _ _)
                    · unfold maxLen; omega
                    · omega
                    · simp
                    intro g9 cap9 w9 hown hgrow hat hlt
                    have f9 : Fp (fun b => u6.ownBlock = some b) wr w9 := (Fp.ofQ (F := fun b => u6.ownBlock = some b) (w := wr) (by repeat (first | exact Q.refl _ | refine Q.drew ?_ | refine Q.drewN ?_ _ | refine Q.alloc ?_ _))).trans (Fp.ofGrown hgrow (fun x hx => hx))
                    have k1 := (f9.cell lT nT 0).trans x0
                    have k2 := (f9.cell lT nT 1).trans x1))
              have hW9 := HW.out.fp f9 (fun b hb q => (HOU.out.new b q).2 (.inl hb))
              have hdj := HS1.out.dj.sub HF2.out
              have hlz := HZ.out.lt
              have hZ9 := HZ.out.fp f9 (fun q => (HOU.out.new _ q).2 (.inr (.inl rfl))) (fun q => (HOU.out.new _ q).2 (.inr (.inr (.inl rfl)))) (fun q => (HOU.out.new _ q).2 (.inr (.inr (.inr rfl))))
              have kr := remove_ok hW9 hZ9 hdj.dA hdj.dS hdj.dM hdj.nAM hdj.nSM HN60.out i HSI.out
              have HNX := Lib.hid (fun (w10 : World) (hz : Wz A Sb M N n (Whp.rem (Whp.rmv S0 D) i) False w10) (f10 : Fp (fun b => b = A ∨ b = Sb ∨ b = M) w9 w10) => FiR.next (S0 := S0) (F0 := F0) hkl HDI.out HK2.out HW.out HOU.out HOWN.out HNE.out HFP.out HTB.out hdj (fun b hb => HS1.out.gw b (HF2.out b hb)) HG2.out hlz (fun q => by have h1 := (HOU.out.new 0 q).1; have h2 := HZ0.out; omega) f9 hown (hat.imp id (fun q => by omega)) hz f10)
              clear hW9 hdj hlz hZ9 hown hgrow hat hlt f9 k1 k2 x0 x1 ck
              go_wp2_with (go_at_call 27; (with_reducible refine kr.mono ?_); rintro e w10 ⟨rfl, hz, hf10⟩; have HZ10 := Lib.hid hz; have HF10 := Lib.hid hf10; clear hz hf10)
              go_roundw
              case rel => exact HNX.out _ HZ10.out HF10.out
              case measure => simp [intOf]; omega
            · obtain rfl : k = L := by omega
              have htk : dl.take k = dl := List.take_of_length_le (by rw [HL.out]; exact Nat.le_refl _)
              rw [htk] at hz hou
              have hA := FiR.done HS1.out HF2.out HD.out (by rw [HAT.out]; exact HLE.out) hw hz hou hfp htb
              have hge2 : ∀ i, Whp.rmv S0 (d ++ dl) i = true → at' + 1 ≤ t i := fun i hi => by
                have := HD.out.2.2.2 i (by rw [Whp.rmv_append]; exact hi)
                rwa [HAT.out] at this
              have kent := enter_ok hA.wl (at' + 1) (Whp.rmv S0 (d ++ dl)) ⟨_, hA.wi.1⟩ HN60.out HT.out hf40 (by omega)
              rw [show ((at' + 1 : Nat) : Int) = (at' : Int) + 1 from by omega] at kent
              have hff : f ≤ at' + 1 := by have := HQ3.out; omega
              have hms : Whp.mes t (at' + 1) n (Whp.rmv (Whp.rmv S0 d) dl) < Whp.mes t f n (Whp.rmv S0 d) := Whp.mes_fire hff (fun i hi => hge2 i (by rw [← Whp.rmv_append]; exact hi)) HXN.out HXS.out HXD.out
              rw [Whp.rmv_append] at hms
              have HMS : Hid (Whp.mes t (at' + 1) n (Whp.rmv S0 (d ++ dl)) < gk) := Lib.hid (by have := HK.out; omega)
              have HA := Lib.hid hA
              have HGE := Lib.hid hge2
              have HFF := Lib.hid hff
              clear hw hz hou hown hne hfp htb htk hA hge2 hms hff
              go_wp2_with (go_at_call 23; (with_reducible refine kent.mono ?_); rintro e w5 ⟨rfl, hp⟩; have HP := Lib.hid hp; clear hp)
              go_roundg (Whp.mes t (at' + 1) n (Whp.rmv S0 (d ++ dl)))
              case measure => exact HMS.out
              case rel =>
                obtain ⟨F9, a9, _⟩ := HA.out.enter (f' := at' + 1) HFF.out (by have := HLE.out; omega) HGE.out HP.out
                exact ⟨F9, at' + 1, _, d ++ dl, a9, Nat.le_refl _⟩
        · obtain ⟨f', hf'⟩ : ∃ b, Whp.beg j f = b := ⟨_, rfl⟩
          have hld := Whp.lev_down (hs1.wi.2 x hxS) (by omega) hj hxl'
          rw [hf'] at z1 hle hge q1 q2 q3 hld
          rw [hf']
          have z2 : decide ((0 : Int) < ((j / 64 : Nat) : Int)) = true := decide_eq_true (by omega)
          generalize ((j / 64 : Nat) : Int) = lv at *
          generalize ((j % 64 : Nat) : Int) = sl at *
          have y5 : (f' : Int) < 549755813888 := by omega
          have kent := enter_ok hs1.wl f' (Whp.rmv S0 d) ⟨_, hs1.wi.1⟩ HN60.out HT.out hf40 (by omega)
          have HS1 := Lib.hid hs1
          have HMS : Hid (Whp.mes t f' n (Whp.rmv S0 d) < gk) := Lib.hid (Nat.lt_of_lt_of_le (Whp.mes_enter q3 hge hxn hxS (by rw [hxl']; exact hld)) HK.out)
          have HFF := Lib.hid q3
          have HGE := Lib.hid hge
          clear hmr hge hne hlow hx hxS hxl' hxn q1 q2 q3 hld hf'
          clear hs1
          go_wp2_with (go_at_call 23; (with_reducible refine kent.mono ?_); rintro e w5 ⟨rfl, hp⟩; have HP := Lib.hid hp; clear hp)
          go_roundg (Whp.mes t f' n (Whp.rmv S0 d))
          case measure => exact HMS.out
          case rel =>
            obtain ⟨F9, a9, _⟩ := HS1.out.enter (f' := f') HFF.out (by omega) HGE.out HP.out
            exact ⟨F9, f', _, d, a9, Nat.le_refl _⟩
      · have z1 : decide (u < Whp.beg j f) = true := decide_eq_true (by omega)
        have HST : Hid (∀ i, Whp.rmv S0 d i = true → u + 1 ≤ t i) := Lib.hid (fun i hi => by have := hge i hi; omega)
        generalize ((j / 64 : Nat) : Int) = lv at *
        generalize ((j % 64 : Nat) : Int) = sl at *
        generalize Whp.beg j f = f' at *
        clear hmr hge hne hlow hx hxS hxl' hxn q1 q2 q3 hle
        obtain ⟨c0, z0, c1⟩ := hs1.wl.cells
        have hs2 := hs1.now u
        have HS2 := Lib.hid hs2
        by_cases hfu : f ≤ u
        · have kent := enter_ok hs2.wl (u + 1) (Whp.rmv S0 d) ⟨_, hs2.wi.1⟩ HN60.out HT.out (by omega) (by omega)
          rw [show ((u + 1 : Nat) : Int) = (u : Int) + 1 from by omega] at kent
          have z9 : decide (f ≤ u) = true := decide_eq_true (by omega)
          have HFU := Lib.hid hfu
          clear hs1 hs2 hfu
          go_wp2_with (go_at_call 23; (with_reducible refine kent.mono ?_); rintro e w5 ⟨rfl, hp⟩; have HP := Lib.hid hp; clear hp)
          go_ret2
          obtain ⟨F9, a9, _⟩ := HS2.out.enter (f' := u + 1) (Nat.le_trans HFU.out (Nat.le_succ u)) (Nat.le_refl _) HST.out HP.out
          exact ⟨_, rfl, F9, _, d, a9, HST.out⟩
        · have z9 : decide (f ≤ u) = false := decide_eq_false (by omega)
          have HFE : Hid (f = u + 1) := Lib.hid (by have := hs1.ft; omega)
          clear hs1 hs2 hfu
          go_wp2_with fail
          go_ret2
          obtain rfl := HFE.out
          exact ⟨_, rfl, F, rows, d, HS2.out, HST.out⟩
    · obtain ⟨hmS, hml⟩ := ((hs1.wi.1 256).2 m).1 hm
      have hml' : Whp.loc (t m) f = 256 := hml
      clear hml
      obtain ⟨q1, q2, q3⟩ := Whp.lev_far (hs1.wi.2 m hmS) hml' rfl
      have hge : ∀ i, Whp.rmv S0 d i = true → t m / 16777216 * 16777216 ≤ t i := fun i hi => by
        have h1 := min_row hs1.wi hlow i hi
        have h2 := Whp.loc_lt (t i) f
        have h3 : i ∈ rows 256 := ((hs1.wi.1 256).2 i).2 ⟨hi, by show Whp.loc (t i) f = 256; omega⟩
        exact Nat.le_trans q2 (hmin i h3)
      have hmn : m < n := HSB.out m (by
        unfold Whp.rmv at hmS
        simp at hmS
        exact hmS.1)
      have hld : Whp.loc (t m) (t m / 16777216 * 16777216) / 64 < Whp.loc (t m) f / 64 := by rw [hml']; exact q3
      generalize t m / 16777216 * 16777216 = f' at *
      by_cases hle : f' ≤ u
      · have z1 : decide (u < f') = false := decide_eq_false (by omega)
        have y5 : (f' : Int) < 549755813888 := by omega
        have kent := enter_ok hs1.wl f' (Whp.rmv S0 d) ⟨_, hs1.wi.1⟩ HN60.out HT.out hf40 (by omega)
        have HS1 := Lib.hid hs1
        have HMS : Hid (Whp.mes t f' n (Whp.rmv S0 d) < gk) := Lib.hid (Nat.lt_of_lt_of_le (Whp.mes_enter q1 hge hmn hmS hld) HK.out)
        have HFF := Lib.hid q1
        have HGE := Lib.hid hge
        clear hge hlow hm hmS hml' hmn q1 q2 q3 hld hmin
        clear hs1
        go_wp2_with (go_at_call 23; (with_reducible refine kent.mono ?_); rintro e w5 ⟨rfl, hp⟩; have HP := Lib.hid hp; clear hp)
        go_roundg (Whp.mes t f' n (Whp.rmv S0 d))
        case measure => exact HMS.out
        case rel =>
          obtain ⟨F9, a9, _⟩ := HS1.out.enter (f' := f') HFF.out (by omega) HGE.out HP.out
          exact ⟨F9, f', _, d, a9, Nat.le_refl _⟩
      · have z1 : decide (u < f') = true := decide_eq_true (by omega)
        have HST : Hid (∀ i, Whp.rmv S0 d i = true → u + 1 ≤ t i) := Lib.hid (fun i hi => by have := hge i hi; omega)
        clear hge hlow hm hmS hml' hmn q1 q2 q3 hld hmin hle
        obtain ⟨c0, z0, c1⟩ := hs1.wl.cells
        have hs2 := hs1.now u
        have HS2 := Lib.hid hs2
        by_cases hfu : f ≤ u
        · have kent := enter_ok hs2.wl (u + 1) (Whp.rmv S0 d) ⟨_, hs2.wi.1⟩ HN60.out HT.out (by omega) (by omega)
          rw [show ((u + 1 : Nat) : Int) = (u : Int) + 1 from by omega] at kent
          have z9 : decide (f ≤ u) = true := decide_eq_true (by omega)
          have HFU := Lib.hid hfu
          clear hs1 hs2 hfu
          go_wp2_with (go_at_call 23; (with_reducible refine kent.mono ?_); rintro e w5 ⟨rfl, hp⟩; have HP := Lib.hid hp; clear hp)
          go_ret2
          obtain ⟨F9, a9, _⟩ := HS2.out.enter (f' := u + 1) (Nat.le_trans HFU.out (Nat.le_succ u)) (Nat.le_refl _) HST.out HP.out
          exact ⟨_, rfl, F9, _, d, a9, HST.out⟩
        · have z9 : decide (f ≤ u) = false := decide_eq_false (by omega)
          have HFE : Hid (f = u + 1) := Lib.hid (by have := hs1.ft; omega)
          clear hs1 hs2 hfu
          go_wp2_with fail
          go_ret2
          obtain rfl := HFE.out
          exact ⟨_, rfl, F, rows, d, HS2.out, HST.out⟩
    · have HST : Hid (∀ i, Whp.rmv S0 d i = true → u + 1 ≤ t i) := Lib.hid (fun i hi => (none_left hs1.wi hall i hi).elim)
      clear hall
      obtain ⟨c0, z0, c1⟩ := hs1.wl.cells
      have hs2 := hs1.now u
      have HS2 := Lib.hid hs2
      by_cases hfu : f ≤ u
      · have kent := enter_ok hs2.wl (u + 1) (Whp.rmv S0 d) ⟨_, hs2.wi.1⟩ HN60.out HT.out (by omega) (by omega)
        rw [show ((u + 1 : Nat) : Int) = (u : Int) + 1 from by omega] at kent
        have z9 : decide (f ≤ u) = true := decide_eq_true (by omega)
        have HFU := Lib.hid hfu
        clear hs1 hs2 hfu
        go_wp2_with (go_at_call 23; (with_reducible refine kent.mono ?_); rintro e w5 ⟨rfl, hp⟩; have HP := Lib.hid hp; clear hp)
        go_ret2
        obtain ⟨F9, a9, _⟩ := HS2.out.enter (f' := u + 1) (Nat.le_trans HFU.out (Nat.le_succ u)) (Nat.le_refl _) HST.out HP.out
        exact ⟨_, rfl, F9, _, d, a9, HST.out⟩
      · have z9 : decide (f ≤ u) = false := decide_eq_false (by omega)
        have HFE : Hid (f = u + 1) := Lib.hid (by have := hs1.ft; omega)
        clear hs1 hs2 hfu
        go_wp2_with fail
        go_ret2
        obtain rfl := HFE.out
        exact ⟨_, rfl, F, rows, d, HS2.out, HST.out⟩
end Go.Proofs.YtnmgcjkffeeapaaDoor

