/- The contract of admit.New. -/
import Derived.Test.YtnmgcjkffeeapabGreatDoorNewA
import Derived.Deep.DeepCutAuto
import Derived.Deep.RegionLaw
import Derived.Deep.AppendLies
namespace Go.Proofs.YtnmgcjkffeeapabGreatDoor
open Go.RowKit
set_option linter.unusedVariables false
set_option linter.unusedSimpArgs false
/-- what a job's cells hold -/
structure JobC (js : List Value) (cap T U F O N : Int) : Prop where
  j15 : js[15]? = some (.int .i64 cap)
  j21 : js[21]? = some (.int .i64 T)
  j22 : js[22]? = some (.int .i64 U)
  j23 : js[23]? = some (.int .i64 F)
  j24 : js[24]? = some (.int .i64 O)
  j25 : js[25]? = some (.int .i64 N)
  one : js.toArray.all (·.oneCell') = true
theorem news2q (w : World) (x y : Value) (t : TypeId) {w1 : World} (q : Q (w.alloc (.cells #[x, y] t)) w1) : ∀ j u, [x, y][j]? = some u → w1.cell? ((⟨w.heap.size, 0, none⟩ : Addr).add j) = some u := fun j u h => keepc q (news2 w x y t j u h)
def Cfg (gc T U : Int) (J : Nat) : Value := .agg #[.int .i64 gc, .int .i64 1, .int .i64 0, .int .i64 1, .int .u64 0, .int .i64 T, .int .i64 U, .slice (some ⟨J, 0, none⟩) 1 1]
theorem cf_new {w w1 : World} {gs : Array Value} {t : TypeId} {J E : Nat} {js : List Value} {T U cap : Int} (hJ : w.rangeAt J 0 js) (hl : js.length = 30) (q1 : Q (w.alloc (.cells gs t)) w1) (h5 : gs[5]? = some (.int .i64 T)) (h6 : gs[6]? = some (.int .i64 U)) (h7 : gs[7]? = some (.slice (some ⟨J, 0, none⟩) 1 1)) (he : w1.cell? ⟨E, 0, none⟩ = some (.int .i64 cap)) : Cf w.heap.size J E js T U cap w1 := by
  have hJl := lt_of_range hJ hl
  have q := ((Q.refl w).alloc (.cells gs t)).trans q1
  have c (k : Nat) (v : Value) (hk : gs[k]? = some v) : w1.cell? ⟨w.heap.size, k, none⟩ = some v := by
    refine keepc q1 ?_
    rw [World.cell?]; simp only [heap_alloc_new]; exact hk
  exact ⟨c 5 _ h5, c 6 _ h6, c 7 _ h7, range_q hJ hJl q, he, by have := q.size; omega⟩
theorem own2' {w : World} {base g c : Nat} {x y : Value} (h : w.ownsRow base 79 2 (.slice (some ⟨g, 0, none⟩) 1 c) 1 [x, y]) : base ≤ g ∧ w.cell? ⟨g, 0, none⟩ = some x ∧ w.cell? ⟨g, 1, none⟩ = some y := by
  obtain ⟨g', c', he, h1, h2, h3⟩ := own2 h
  cases he
  exact ⟨h1, h2, h3⟩
theorem nd7 {G C L D E M B : Nat} (h1 : E < G) (h2 : G < C) (h3 : C < L) (h4 : L < M) (h5 : M < B) (h6 : B < D) {dc ec : Nat} : (Pl.mk G C L D E M B dc ec).all.Nodup := by
  simp [Pl.all]
  omega
theorem new_fin {G C L D E M B dc ec : Nat} {gc cap T U T' U' F O N : Int} {w : World} (hG : Gt G gc (.pointer (some ⟨C, 0, none⟩)) (.pointer (some ⟨L, 0, none⟩)) (.slice none 0 0) (.slice (some ⟨E, 0, none⟩) 1 ec) w)
    (hf : Fr G w (w.setCell ⟨G, 3, none⟩ (.slice (some ⟨D, 0, none⟩) 1 dc))) (e0 : w.cell? ⟨D, 0, none⟩ = some (.pointer (some ⟨M, 0, none⟩))) (e1 : w.cell? ⟨D, 1, none⟩ = some (.pointer (some ⟨B, 0, none⟩))) (hE : w.cell? ⟨E, 0, none⟩ = some (.int .i64 cap))
    (hC : CaAt C (Ca.fresh gc cap) w) (hL : LiAt L ⟨false, 0, 0, T, U⟩ w) (hM : LiAt M ⟨false, 0, 0, T', U'⟩ w) (hB : BxAt B (Bx.fresh F O N) w) (nd : (Pl.mk G C L D E M B dc ec).all.Nodup) (hDl : G ≠ D) :
    GaAt ⟨G, C, L, D, E, M, B, dc, ec⟩ ⟨0, Ca.fresh gc cap, ⟨false, 0, 0, T, U⟩, ⟨false, 0, 0, T', U'⟩, Bx.fresh F O N⟩ (w.setCell ⟨G, 3, none⟩ (.slice (some ⟨D, 0, none⟩) 1 dc)) := by
  obtain ⟨a1, a2, a3, a4, a5, a6, a7, a8, a9, a10, a11, a12, a13, a14, a15, a16, a17, a18, a19, a20, a21⟩ := Pl.ne nd
  dsimp only at a1 a2 a3 a4 a5 a6
  have h9 := hG.s3 (.slice (some ⟨D, 0, none⟩) 1 dc)
  have lD := lt_of_cell e0
  have lE := lt_of_cell hE
  exact ⟨h9.g0, h9.g1, h9.g2, h9.g3, h9.g4, h9.g5, h9.f5, (hf.cell lD (Ne.symm a3) 0).trans e0, (hf.cell lD (Ne.symm a3) 1).trans e1, (hf.cell lE (Ne.symm a4) 0).trans hE, hC.fr hf (Ne.symm a1), hL.fr hf (Ne.symm a2), hM.fr hf (Ne.symm a5), hB.fr hf (Ne.symm a6), nd⟩
set_option maxRecDepth 100000 in
set_option maxHeartbeats 4000000 in
theorem gnew_yes (js : List Value) (h : Jobs3 js false) (gc cap T U T' U' F O N : Int) (hg : 1 ≤ gc ∧ gc ≤ 1000) (hv : VL T U) (hc : 0 ≤ cap ∧ cap ≤ 1000) (hv' : VL T' U') (hb : VB F O N) (hj : JobC js cap T' U' F O N) (J : Nat) (w : World) (hJ : w.rangeAt J 0 js) :
    Calls Tryz.prog 5 #[Cfg gc T U J] w fun e w' => ∃ p : Pl, e = .returned (.tuple #[.pointer (some ⟨p.G, 0, none⟩), .int .i64 0]) ∧ GaAt p ⟨0, Ca.fresh gc cap, ⟨false, 0, 0, T, U⟩, ⟨false, 0, 0, T', U'⟩, Bx.fresh F O N⟩ w' ∧ (∀ b ∈ p.all, w.heap.size ≤ b) ∧ Q w w' := by
  have hJl := lt_of_range hJ h.len
  have kcap := fun o => caps_yes js h gc cap T U hg (limE_zero.2 hv) hj.j15 hj.one J (w.alloc o) (range_q hJ hJl ((Q.refl w).alloc o))
  have kcn := fun E c w2 hE => cnew_ok gc cap E c (by omega) hc w2 hE
  have kl := fun w2 => lnew_ok T U hv w2
  have kl' := fun w2 => lnew_ok T' U' hv' w2
  have kb := fun w2 => bnew_ok F O N hb w2
  have HJ := Lib.hid hJ
  have HL := Lib.hid h.len
  have HC := Lib.hid hj
  have hsz : (Tryz.prog.info? 43).map (·.size) = some js.length := by rw [HL.out]; exact size43
  clear hJ h hg hv hc hv' hb hj
  unfold Cfg
  go_enter Tryz.func5, Tryz.ntmps5
  go_upto_region 5 with (go_at_call 21; (with_reducible refine (kcap _).mono ?_); rintro e w1 ⟨E, ec, rfl, hE, hEb, q1⟩; have hcf := cf_new HJ.out HL.out q1 (by rfl) (by rfl) (by rfl) hE)
  clear kcap
  have hG := (gt_new w1 gc (.slice (some ⟨E, 0, none⟩) 1 ec))
  have hcf1 := hcf.q ((Q.refl w1).alloc (.cells #[.pointer none, .int .i64 gc, .pointer none, .slice none 0 0, .slice (some ⟨E, 0, none⟩) 1 ec, .int .i64 0] 77))
  have qV1 : Q w (w1.alloc (.cells #[.pointer none, .int .i64 gc, .pointer none, .slice none 0 0, .slice (some ⟨E, 0, none⟩) 1 ec, .int .i64 0] 77)) := ((((Q.refl w).alloc _).trans q1).alloc _)
  have zE := lt_of_cell hE
  have zK := q1.size
  dsimp only at zE
  simp at hEb zK
  generalize w1.alloc (.cells #[.pointer none, .int .i64 gc, .pointer none, .slice none 0 0, .slice (some ⟨E, 0, none⟩) 1 ec, .int .i64 0] 77) = V1 at *
  clear hcf hE q1
  generalize w1.heap.size = G at *
  go_upto_region 6 with (go_at_call 6; (with_reducible refine (kcn _ _ _ hcf1.e).mono ?_); rintro e w2 ⟨C, rfl, zC, hC, q2⟩; have hG2 := hG.q q2; have g0 := hG2.g0; have f0 := hG2.f0)
  have hV2 : Fr G w2 (w2.setCell ⟨G, 0, none⟩ (.pointer (some ⟨C, 0, none⟩))) := (Fr.refl G w2).setCell 0 _
  have zG := hG.lt
  have zw2 := q2.size
  have hcf2 := (hcf1.q q2).fr hV2 (by omega) (by omega) (by omega)
  have hG3 := hG2.s0 (.pointer (some ⟨C, 0, none⟩))
  have hC2 := hC.fr hV2 (by omega)
  have qV2 : Q w (w2.setCell ⟨G, 0, none⟩ (.pointer (some ⟨C, 0, none⟩))) := (qV1.trans q2).setCell (show w.heap.size ≤ G by omega) _
  have zV2 := hV2.2.2.2.1
  clear hV2 hcf1 hG hG2 g0 f0 hC qV1 q2
  generalize w2.setCell ⟨G, 0, none⟩ (.pointer (some ⟨C, 0, none⟩)) = V2 at *
  have c5 := hcf2.c5
  have c6 := hcf2.c6
  go_upto_region 7 with (go_at_call 7; (with_reducible refine (kl _).mono ?_); rintro e w3 ⟨L, rfl, zL, hL, q3⟩; have hG4 := hG3.q q3; have g2 := hG4.g2; have f2 := hG4.f2)
  have hV3 : Fr G w3 (w3.setCell ⟨G, 2, none⟩ (.pointer (some ⟨L, 0, none⟩))) := (Fr.refl G w3).setCell 2 _
  have zC2 := hC2.lt
  have zw3 := q3.size
  have hcf3 := (hcf2.q q3).fr hV3 (by omega) (by omega) (by omega)
  have hG5 := hG4.s2 (.pointer (some ⟨L, 0, none⟩))
  have hC3 := (hC2.q q3).fr hV3 (by omega)
  have hL3 := hL.fr hV3 (by omega)
  have qV3 : Q w (w3.setCell ⟨G, 2, none⟩ (.pointer (some ⟨L, 0, none⟩))) := (qV2.trans q3).setCell (show w.heap.size ≤ G by omega) _
  clear hV3 hcf2 hG3 hG4 g2 f2 hC2 hL qV2 q3 c5 c6
  generalize w3.setCell ⟨G, 2, none⟩ (.pointer (some ⟨L, 0, none⟩)) = V3 at *
  have c7 := hcf3.c7
  have zL3 := hL3.lt
  have zG3 := hG5.lt
  go_wp2_with fail
  refine wp_loop_rounds 2 ?_; rw [rounds_succ]
  clear c7
  have HR := Lib.hid hcf3.j
  have HO := Lib.hid HC.out.one
  go_upto_region 10 with (first
    | (refine wpList_load_mid (by rfl) 43 (.tmp 48) (by rfl) J 0 (by rfl) js _ HR.out Tryz.underlying43 (by rfl) hsz ?_)
    | (refine wpList_store_fresh (by rfl) 43 (.tmp 9) (.tmp 49) (by rfl) js (by rfl) (by rfl) HL.out hsz HO.out ?_; intro V4 q4 r4 z4))
  have hcf4 := hcf3.q q4
  have hG6 := hG5.q q4
  have hC4 := hC3.q q4
  have hL4 := hL3.q q4
  have qV4 := qV3.trans q4
  have zV4 := q4.size
  clear hcf3 hG5 hC3 hL3 qV3 q4 HR HO hsz
  generalize V3.heap.size = jb at *
  go_upto_region 11 with fail
  have hcf5 := hcf4.q ((Q.refl V4).alloc (.cells #[.pointer none, .pointer none] 79))
  have hG7 := hG6.q ((Q.refl V4).alloc (.cells #[.pointer none, .pointer none] 79))
  have hC5 := hC4.q ((Q.refl V4).alloc (.cells #[.pointer none, .pointer none] 79))
  have hL5 := hL4.q ((Q.refl V4).alloc (.cells #[.pointer none, .pointer none] 79))
  have qV5 := qV4.alloc (.cells #[.pointer none, .pointer none] 79)
  have hD5 := dr_new V4 (.pointer none) (.pointer none) 79
  have r5 := range_q r4 z4 ((Q.refl V4).alloc (.cells #[.pointer none, .pointer none] 79))
  clear hcf4 hG6 hC4 hL4 qV4 r4
  generalize V4.alloc (.cells #[.pointer none, .pointer none] 79) = V5 at *
  generalize V4.heap.size = d at *
  have b21 := r5 21 _ HC.out.j21
  have b22 := r5 22 _ HC.out.j22
  simp only [Nat.zero_add] at b21 b22
  have zd5 := hD5.lt
  go_upto_region 12 with (go_at_call 7; (with_reducible refine (kl' _).mono ?_); rintro e w6 ⟨M, rfl, zM, hM, q6⟩; have hD6 := hD5.q q6; have d0 := hD6.d0; have f0 := hD6.f0)
  have hV6 : Fr d w6 (w6.setCell ⟨d, 0, none⟩ (.pointer (some ⟨M, 0, none⟩))) := (Fr.refl d w6).setCell 0 _
  have zw6 := q6.size
  have hcf6 := (hcf5.q q6).fr hV6 (by omega) (by omega) (by omega)
  have hG8 := (hG7.q q6).fr hV6 (by omega)
  have hC6 := (hC5.q q6).fr hV6 (by omega)
  have hL6 := (hL5.q q6).fr hV6 (by omega)
  have hM6 := hM.fr hV6 (by omega)
  have hD7 := hD6.s0 (.pointer (some ⟨M, 0, none⟩))
  have r6 := range_fr (range_q r5 (by omega) q6) (by omega) hV6 (by omega)
  have qV6 : Q w (w6.setCell ⟨d, 0, none⟩ (.pointer (some ⟨M, 0, none⟩))) := (qV5.trans q6).setCell (show w.heap.size ≤ d by omega) _
  have zV6 := hV6.2.2.2.1
  clear hV6 hcf5 hG7 hC5 hL5 hM hD5 hD6 qV5 q6 r5 b21 b22 d0 f0
  generalize w6.setCell ⟨d, 0, none⟩ (.pointer (some ⟨M, 0, none⟩)) = V6 at *
  have b23 := r6 23 _ HC.out.j23
  have b24 := r6 24 _ HC.out.j24
  have b25 := r6 25 _ HC.out.j25
  simp only [Nat.zero_add] at b23 b24 b25
  have zd6 := hD7.lt
  have zM6 := hM6.lt
  go_upto_region 13 with (go_at_call 8; (with_reducible refine (kb _).mono ?_); rintro e w7 ⟨B, rfl, zB, hB, q7⟩; have hD8 := hD7.q q7; have d1 := hD8.d1; have f1 := hD8.f1)
  have hV7 : Fr d w7 (w7.setCell ⟨d, 1, none⟩ (.pointer (some ⟨B, 0, none⟩))) := (Fr.refl d w7).setCell 1 _
  have zw7 := q7.size
  have hG9 := (hG8.q q7).fr hV7 (by omega)
  have hE7 := ((hcf6.q q7).fr hV7 (by omega) (by omega) (by omega)).e
  have hC7 := (hC6.q q7).fr hV7 (by omega)
  have hL7 := (hL6.q q7).fr hV7 (by omega)
  have hM7 := (hM6.q q7).fr hV7 (by omega)
  have hB7 := hB.fr hV7 (by omega)
  have hD9 := hD8.s1 (.pointer (some ⟨B, 0, none⟩))
  have c77 := ((hcf6.q q7).fr hV7 (by omega) (by omega) (by omega)).c7
  have qV7 : Q w (w7.setCell ⟨d, 1, none⟩ (.pointer (some ⟨B, 0, none⟩))) := (qV6.trans q7).setCell (show w.heap.size ≤ d by omega) _
  clear hV7 hcf6 hG8 hC6 hL6 hM6 hB hD7 hD8 qV6 q7 r6 b23 b24 b25 d1 f1
  generalize w7.setCell ⟨d, 1, none⟩ (.pointer (some ⟨B, 0, none⟩)) = V7 at *
  obtain ⟨i0, hi, hz0, hz1, hz2⟩ := info_parts info79
  have hG9' := Lib.hid hG9
  have hD9' := Lib.hid hD9
  have g3 := hG9.g3
  have f3 := hG9.f3
  have d0 := hD9.d0
  have d1 := hD9.d1
  have zG7 := hG9.lt
  have zd7 := hD9.lt
  have n1 : V7.heap.size ≠ G := by omega
  have n2 : V7.heap.size ≠ d := by omega
  clear hG9 hD9
  go_region_law (first
    | (refine step_append_lies _ (by rfl) _ _ 75 (by rfl) V7.heap.size 79 i0 (.agg #[.pointer none, .pointer none]) 2 16 Tryz.underlying75 hi hz0 hz1 hz2 rfl (by decide) (.slice none 0 0) 0 [] (by rfl) (World.ownsRow_nil _ _ _ _) ⟨V7.heap.size, 0, none⟩ 1 1 [.pointer (some ⟨M, 0, none⟩), .pointer (some ⟨B, 0, none⟩)] (by rfl) rfl ?_ (by simp [Value.oneCell']) (by decide) (by decide) (by decide) ?_ (V7.heap.size + 1) ?_ ?_
       · first | exact news2 V7.drew _ _ _ | exact news2 (V7.drewN 1) _ _ _ | exact news2 (V7.drewN 2) _ _ _ | exact news2 V7.drew.drew _ _ _ | exact news2 V7 _ _ _ | exact news2q V7 _ _ _ ((Q.refl _).drew)
       · simp
       · simp
       intro g dc w9 hown hgrow hat hlt
       have q9 : Q V7 w9 := Q.grown (a := V7) (by repeat (first | exact Q.refl _ | assumption | refine Q.alloc ?_ _ | refine Q.drew ?_ | refine Q.drewN ?_ _)) hgrow (by intro k hk; cases hk)
       have k1 := keepc q9 g3
       have k4 := (hG9'.out.q q9).f3))
  all_goals
    have hV9 : Fr G w9 (w9.setCell ⟨G, 3, none⟩ (.slice (some ⟨g, 0, none⟩) 1 dc)) := (Fr.refl G w9).setCell 3 _
    obtain ⟨zg, e0, e1⟩ := own2' hown
    have zE9 := lt_of_cell hE7
    have zB7 := hB7.lt
    have q9' := q9.size
    dsimp only at zE9
    have hfin := new_fin (hG9'.out.q q9) hV9 e0 e1 (keepc q9 hE7) (hC7.q q9) (hL7.q q9) (hM7.q q9) (hB7.q q9) (nd7 (by omega) (by omega) (by omega) (by omega) (by omega) (by omega)) (by omega)
    have hge : ∀ b ∈ (Pl.mk G C L g E M B dc ec).all, w.heap.size ≤ b := by
      intro b hb
      simp [Pl.all] at hb
      omega
    have qfin : Q w (w9.setCell ⟨G, 3, none⟩ (.slice (some ⟨g, 0, none⟩) 1 dc)) := (qV7.trans q9).setCell (show w.heap.size ≤ G by omega) _
    clear hown hgrow hat hlt q9 k1 k4 hV9 e0 e1 hE7 hC7 hL7 hM7 hB7 qV7 g3 f3 d0 d1 n1 n2 hi hz0 hz1 hz2
    generalize w9.setCell ⟨G, 3, none⟩ (.slice (some ⟨g, 0, none⟩) 1 dc) = V9 at *
    go_wp2_with fail
    rw [rounds_succ]
    go_wp2_with fail
    go_ret2
    exact ⟨⟨G, C, L, g, E, M, B, dc, ec⟩, rfl, hfin, hge, qfin⟩
set_option maxRecDepth 100000 in
theorem gnew_no (js : List Value) (b : Bool) (h : Jobs3 js b) (gc T U : Int) (hg : 1 ≤ gc ∧ gc ≤ 1000) (hx : limE T U = 0 → b = true) (J : Nat) (w : World) (hJ : w.rangeAt J 0 js) :
    Calls Tryz.prog 5 #[Cfg gc T U J] w fun e w' => e = .returned (.tuple #[.pointer none, .int .i64 16]) ∧ Q w w' := by
  have hJl := lt_of_range hJ h.len
  have kcap := fun o => caps_no js b h gc T U hg hx J (w.alloc o) (range_q hJ hJl ((Q.refl w).alloc o))
  clear hJ h hg hx
  unfold Cfg
  go_enter Tryz.func5, Tryz.ntmps5
  go_wp2_with (go_at_call 21; (with_reducible refine (kcap _).mono ?_); rintro e w1 ⟨rfl, q1⟩)
  go_ret2
  exact ⟨rfl, ((Q.refl w).alloc _).trans q1⟩
end Go.Proofs.YtnmgcjkffeeapabGreatDoor
