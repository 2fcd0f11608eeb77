/- The contract of the heap's Push. -/
import Derived.Test.YtnmgcjkffeeapaaDoorHeD
import Derived.Test.YtnmgcjkffeeapaaDoorHeE
import Derived.Deep.RegionLaw
import Derived.Deep.DeepCutAuto
namespace Go.Proofs.YtnmgcjkffeeapaaDoor
open Go.RowKit
set_option linter.unusedVariables false
set_option linter.unusedSimpArgs false
theorem info67 : (Tryd.prog.info? 67).map (fun i => (i.zero, i.size, i.bytes)) = some (some (.agg #[.int .i64 0, .int .i64 0, .int .i64 0]), 3, 24) := by kernel_rfl
section
variable {F : Nat → Prop} {H M : Nat} {v : Value} {l : List En} {ps B : Int} {w w' : World}
theorem HeAt.app (h : HeAt F H M v l ps B w) {g cap : Nat} {e : En} (hown : w'.ownsRow 0 67 3 (.slice (some ⟨g, 0, none⟩) (l.length + 1) cap) (l.length + 1) (cs l ++ [.int .i64 e.id, .int .i64 e.v, .int .i64 e.p])) (f9 : Fp (fun b => v.ownBlock = some b) w w') (hat : v.ownBlock = some g ∨ w.heap.size ≤ g) (hlt : g < w'.heap.size) (he : e.id < B) :
    HeAt (fun b => F b ∨ b = g) H M (.slice (some ⟨g, 0, none⟩) (l.length + 1) cap) (l ++ [e]) ps B (w'.setCell ⟨H, 1, none⟩ (.slice (some ⟨g, 0, none⟩) (l.length + 1) cap)) := by
  have lH : H < w.heap.size := h.Fl _ h.FH
  have lM : M < w.heap.size := h.Fl _ h.FM
  have nH : ¬ v.ownBlock = some H := fun q => (h.Fv _ q).2.1 rfl
  have nM : ¬ v.ownBlock = some M := fun q => (h.Fv _ q).2.2 rfl
  have gH : g ≠ H := by rcases hat with q | q
                        · exact (h.Fv g q).2.1
                        · omega
  have gM : g ≠ M := by rcases hat with q | q
                        · exact (h.Fv g q).2.2
                        · omega
  have fH : Fp (fun b => b = H) w' (w'.setCell ⟨H, 1, none⟩ (.slice (some ⟨g, 0, none⟩) (l.length + 1) cap)) := Fp.ofFr ((Fr.refl H w').setCell 1 _) rfl
  have c1 := (f9.cell lH nH 1).trans h.c1
  refine ⟨(sc_ne _ _ _ _ _ (by decide)).trans ((f9.cell lH nH _).trans h.c0), World.cell?_setCell_same _ _ _ c1, (sc_ne _ _ _ _ _ (by decide)).trans ((f9.cell lH nH _).trans h.c2), (sc_ne _ _ _ _ _ (by decide)).trans ((f9.cell lH nH _).trans h.c3), by rw [World.frozen?_setCell]; exact (f9.frozen lH nH _).trans h.f1, by rw [World.frozen?_setCell]; exact (f9.frozen lH nH _).trans h.f3, ?_, ?_, ?_, .inl h.FH, .inl h.FM, ?_, ?_, h.ne⟩
  · rw [List.length_append, cs_app]
    have e1 : cs [e] = [.int .i64 e.id, .int .i64 e.v, .int .i64 e.p] := by simp [cs, YtnmgcjkffeeapaaDoor.c3]
    rw [e1]
    exact fH.owns hown (fun g' hg' => by simp [Value.ownBlock] at hg'; omega)
  · obtain ⟨ks, ⟨es, cl, hb, h2⟩, k2⟩ := h.mp
    refine ⟨ks, ⟨es, cl, ?_, h2⟩, k2⟩
    rw [fH.block (Nat.lt_of_lt_of_le lM f9.size) (Ne.symm h.ne)]
    exact (f9.block lM nM).trans hb
  · intro x hx
    rcases List.mem_append.1 hx with q | q
    · exact h.ib x q
    · simp at q; rw [q]; exact he
  · intro g' hg'
    have : g = g' := by simpa [Value.ownBlock] using hg'
    subst this
    exact ⟨.inr rfl, gH, gM⟩
  · intro b hb
    rcases hb with q | q
    · exact Nat.lt_of_lt_of_le (h.Fl b q) (Nat.le_trans f9.size fH.size)
    · rw [q]; exact Nat.lt_of_lt_of_le hlt fH.size
theorem HeAt.setP (h : HeAt F H M v l ps B w) (p : Int) : HeAt F H M v l p B (w.setCell ⟨H, 3, none⟩ (.int .i64 p)) := by
  have lM : M < w.heap.size := h.Fl _ h.FM
  have fH : Fp (fun b => b = H) w (w.setCell ⟨H, 3, none⟩ (.int .i64 p)) := Fp.ofFr ((Fr.refl H w).setCell 3 _) rfl
  refine ⟨(sc_ne _ _ _ _ _ (by decide)).trans h.c0, (sc_ne _ _ _ _ _ (by decide)).trans h.c1, (sc_ne _ _ _ _ _ (by decide)).trans h.c2, World.cell?_setCell_same _ _ _ h.c3, by rw [World.frozen?_setCell]; exact h.f1, by rw [World.frozen?_setCell]; exact h.f3, fH.owns h.row (fun g hg => (h.Fv g hg).2.1), ?_, h.ib, h.FH, h.FM, h.Fv, fun b hb => Nat.lt_of_lt_of_le (h.Fl b hb) fH.size, h.ne⟩
  obtain ⟨ks, ⟨es, cl, hb, h2⟩, k2⟩ := h.mp
  exact ⟨ks, ⟨es, cl, (fH.block lM (Ne.symm h.ne)).trans hb, h2⟩, k2⟩
end
theorem hsize_len {F : Nat → Prop} {H M : Nat} {v : Value} {l : List En} {ps B : Int} {w : World} (h : HeAt F H M v l ps B w) : (v = .slice none 0 0 ∧ l.length = 0) ∨ ∃ g cap, v = .slice (some ⟨g, 0, none⟩) l.length cap := by
  rcases h.row.2 with q | ⟨g, cap, cur, q, _⟩
  · exact .inl q
  · exact .inr ⟨g, cap, q⟩
/-- what Push leaves -/
def Pushed (F : Nat → Prop) (H M : Nat) (l : List En) (e : En) (ps B : Int) (w w' : World) : Prop := ∃ F' v' l', HeAt F' H M v' l' ps B w' ∧ l'.Perm (l ++ [e]) ∧ Hep.Hp l' ∧ Fp F w w' ∧ Gw w.heap.size F F'
set_option maxRecDepth 100000 in
set_option maxHeartbeats 4000000 in
theorem push_ok {F : Nat → Prop} {H M : Nat} {v : Value} {l : List En} {ps B : Int} {w : World} (h : HeAt F H M v l ps B w) (hp : Hep.Hp l) (hl : l.length < 60) (hps : 0 ≤ ps ∧ ps < 60) (x : Int) :
    Calls Tryd.prog 9 #[.pointer (some ⟨H, 0, none⟩), .int .i64 B, .int .i64 x] w fun e w' => e = .returned (.int .i64 0) ∧ Pushed F H M l ⟨B, x, ps⟩ (ps + 1) (B + 1) w w' := by
  have km := made_ok h
  have kh := has_no h B (Int.le_refl _)
  have c2 := h.c2
  have n1 : H ≠ M := h.ne
  have km2 := fun (w : World) (es : Array MapEntry) (cl b o : Nat) (hb : b ≠ M) => setMap_cell w M es cl b o hb
  have HP := Lib.hid hp
  obtain ⟨n, hn⟩ : ∃ n, l.length = n := ⟨_, rfl⟩
  have hv := hsize_len h
  rw [hn] at hl hv
  have HN := Lib.hid hn
  clear hp hn
  rcases hv with ⟨rfl, rfl⟩ | ⟨g, cap, rfl⟩
  · have HL0 : Hid (cs l = []) := Lib.hid (by have := HN.out; rw [List.length_eq_zero_iff] at this; rw [this]; rfl)
    have c1 := h.c1
    have hd := h.q (Q.refl w).drew
    obtain ⟨ks, m0, hnd, hkb⟩ := hd.mp
    obtain ⟨es1, cl1, r1, m1⟩ := mp_update (P := Tryd.prog) m0 Tryd.underlying56 Tryd.underlying3 B (.int .i64 0)
    have q1 := nodup_put (k := B) (B := B + 1) hnd (fun x hx => by have := hkb x hx; omega) (by omega)
    have h1 := hd.setM es1 cl1 _ _ (B + 1) m1 q1.1 q1.2 (fun x hx => by have := hd.ib x hx; omega)
    have f1 : Fp F w (setMap w.drew M es1 cl1) := (Fp.ofQ (Q.refl w).drew).trans (Fp.ofFs (setMap_fs w.drew M es1 cl1) (by simpa using hd.FM))
    have H1 := Lib.hid h1
    have HF := Lib.hid f1
    have lH : H < w.heap.size := h.Fl _ h.FH
    have nH : ¬ (Value.ownBlock (.slice none 0 0) = some H) := fun q => (h.Fv _ q).2.1 rfl
    clear h hd m0 hnd hkb m1 q1 h1 f1
    go_enter Tryd.func9, Tryd.ntmps9
    go_wp2_with (first | (go_at_call 19; (with_reducible refine km.mono ?_); rintro e w2 ⟨rfl, rfl⟩) | (go_at_call 20; (with_reducible refine kh.mono ?_); rintro e w2 ⟨rfl, rfl⟩))
    go_region_held3 (fun w' => w'.cell? ⟨H, 1, none⟩ = some (.slice none 0 0) ∧ w'.cell? ⟨H, 2, none⟩ = some (.map (some M))) (go_keep) (fail)
    clear km kh c1 c2 r1
    have lH1 : H < (setMap w.drew M es1 cl1).heap.size := by rw [setMap_size]; exact lH
    generalize setMap w.drew M es1 cl1 = V at *
    have c1 := H1.out.c1
    have c3 := H1.out.c3
    have fz1 := H1.out.f1
    go_wp2_with fail
    have n2 : V.heap.size ≠ H := by omega
    obtain ⟨i0, hi, hz0, hz1, hz2⟩ := info_parts info67
    go_region_law (first
      | (refine step_append_lies _ (by rfl) _ _ 57 (by rfl) 0 67 i0 (.agg #[.int .i64 0, .int .i64 0, .int .i64 0]) 3 24 Tryd.underlying57 hi hz0 hz1 hz2 rfl (by decide) (.slice none 0 0) 0 (cs l) (by rfl) ?_ ⟨V.heap.size, 0, none⟩ 1 1 [.int .i64 B, .int .i64 x, .int .i64 ps] (by rfl) rfl ?_ (by simp [Value.oneCell']) (by decide) ?_ ?_ (Nat.zero_le _) (V.heap.size + 1) ?_ ?_
         · exact (Fp.ofQ (F := fun _ => False) (w := V) (by repeat (first | exact Q.refl _ | refine Q.drew ?_ | refine Q.drewN ?_ _ | refine Q.alloc ?_ _))).owns (by rw [HL0.out]; exact World.ownsRow_nil V 0 67 3) (fun _ _ => id)
         · exact World.news_of_block (heap_alloc_new _ _)
         · unfold maxLen; omega
         · omega
         · simp
         intro g9 cap9 w9 hown hgrow hat hlt
         have f9 : Fp (fun b => Value.ownBlock (.slice none 0 0) = some b) V w9 := (Fp.ofQ (F := fun b => Value.ownBlock (.slice none 0 0) = some b) (w := V) (by repeat (first | exact Q.refl _ | refine Q.drew ?_ | refine Q.drewN ?_ _ | refine Q.alloc ?_ _))).trans (Fp.ofGrown hgrow (fun x hx => hx))
         have k1 := (f9.cell lH1 nH 1).trans c1
         have k2 := (f9.frozen lH1 nH 1).trans fz1))
    all_goals
      have hA := H1.out.app (g := g9) (cap := cap9) (e := ⟨B, x, ps⟩) (by rw [HN.out]; exact hown) f9 (hat.imp id (fun q => by omega)) hlt (by show B < B + 1; omega)
      rw [HN.out] at hA
      simp only [Nat.zero_add] at hA
      have HU : Hid (Hep.HU (l ++ [⟨B, x, ps⟩]) 0) := Lib.hid (by have := Hep.push HP.out ⟨B, x, ps⟩; rw [HN.out] at this; exact this)
      have k3 := (f9.cell lH1 nH 3).trans c3
      have k4 := (f9.frozen lH1 nH 3).trans H1.out.f3
      have hB := hA.setP (ps + 1)
      have kup : Calls Tryd.prog 21 #[.pointer (some ⟨H, 0, none⟩), .int .i64 0] _ _ := ((up_ok hB 0 (by rw [List.length_append, HN.out]; simp) (by rw [List.length_append, HN.out]; simp) HU.out))
      have fB : Fp F V w9 := f9.mono (fun x hx => (H1.out.Fv x hx).1)
      have FB := Lib.hid ((fB.trans (Fp.ofFr ((Fr.refl H w9).setCell 1 (.slice (some ⟨g9, 0, none⟩) (0 + 1) cap9)) H1.out.FH)).trans (Fp.ofFr ((Fr.refl H _).setCell 3 (.int .i64 (ps + 1))) H1.out.FH))
      have HG : Hid (Gw w.heap.size F (fun b => F b ∨ b = g9)) := Lib.hid (fun b hb => by
        rcases hb with q | q
        · exact .inl q
        · rcases hat with q2 | q2
          · rw [q]; exact .inl (H1.out.Fv g9 q2).1
          · right; have := HF.out.size; omega)
      clear hA hB hown hgrow hat hlt f9 fB c1 c3 fz1
      go_wp2_with (go_at_call 21; (with_reducible refine kup.mono ?_); rintro e w3 ⟨rfl, hh⟩; have HH := Lib.hid hh; clear hh)
      go_ret
      obtain ⟨l', h1, h2, h3, h4⟩ := HH.out
      exact ⟨rfl, _, _, l', h1, h2, h3, (HF.out.trans FB.out).andThen HG.out h4, HG.out⟩
  · skip
    have c1 := h.c1
    have hd := h.q (Q.refl w).drew
    obtain ⟨ks, m0, hnd, hkb⟩ := hd.mp
    obtain ⟨es1, cl1, r1, m1⟩ := mp_update (P := Tryd.prog) m0 Tryd.underlying56 Tryd.underlying3 B (.int .i64 (n : Int))
    have q1 := nodup_put (k := B) (B := B + 1) hnd (fun x hx => by have := hkb x hx; omega) (by omega)
    have h1 := hd.setM es1 cl1 _ _ (B + 1) m1 q1.1 q1.2 (fun x hx => by have := hd.ib x hx; omega)
    have f1 : Fp F w (setMap w.drew M es1 cl1) := (Fp.ofQ (Q.refl w).drew).trans (Fp.ofFs (setMap_fs w.drew M es1 cl1) (by simpa using hd.FM))
    have H1 := Lib.hid h1
    have HF := Lib.hid f1
    have lH : H < w.heap.size := h.Fl _ h.FH
    have nH : ¬ (Value.ownBlock (.slice (some ⟨g, 0, none⟩) n cap) = some H) := fun q => (h.Fv _ q).2.1 rfl
    clear h hd m0 hnd hkb m1 q1 h1 f1
    go_enter Tryd.func9, Tryd.ntmps9
    go_wp2_with (first | (go_at_call 19; (with_reducible refine km.mono ?_); rintro e w2 ⟨rfl, rfl⟩) | (go_at_call 20; (with_reducible refine kh.mono ?_); rintro e w2 ⟨rfl, rfl⟩))
    go_region_held3 (fun w' => w'.cell? ⟨H, 1, none⟩ = some (.slice (some ⟨g, 0, none⟩) n cap) ∧ w'.cell? ⟨H, 2, none⟩ = some (.map (some M))) (go_keep) (fail)
    clear km kh c1 c2 r1
    have lH1 : H < (setMap w.drew M es1 cl1).heap.size := by rw [setMap_size]; exact lH
    generalize setMap w.drew M es1 cl1 = V at *
    have c1 := H1.out.c1
    have c3 := H1.out.c3
    have fz1 := H1.out.f1
    go_wp2_with fail
    have n2 : V.heap.size ≠ H := by omega
    obtain ⟨i0, hi, hz0, hz1, hz2⟩ := info_parts info67
    go_region_law (first
      | (refine step_append_lies _ (by rfl) _ _ 57 (by rfl) 0 67 i0 (.agg #[.int .i64 0, .int .i64 0, .int .i64 0]) 3 24 Tryd.underlying57 hi hz0 hz1 hz2 rfl (by decide) (.slice (some ⟨g, 0, none⟩) n cap) n (cs l) (by rfl) ?_ ⟨V.heap.size, 0, none⟩ 1 1 [.int .i64 B, .int .i64 x, .int .i64 ps] (by rfl) rfl ?_ (by simp [Value.oneCell']) (by decide) ?_ ?_ (Nat.zero_le _) (V.heap.size + 1) ?_ ?_
         · exact (Fp.ofQ (F := fun _ => False) (w := V) (by repeat (first | exact Q.refl _ | refine Q.drew ?_ | refine Q.drewN ?_ _ | refine Q.alloc ?_ _))).owns (by rw [← HN.out]; have := H1.out.row; rw [HN.out] at this ⊢; exact this) (fun _ _ => id)
         · exact World.news_of_block (heap_alloc_new _ _)
         · unfold maxLen; omega
         · omega
         · simp
         intro g9 cap9 w9 hown hgrow hat hlt
         have f9 : Fp (fun b => Value.ownBlock (.slice (some ⟨g, 0, none⟩) n cap) = some b) V w9 := (Fp.ofQ (F := fun b => Value.ownBlock (.slice (some ⟨g, 0, none⟩) n cap) = some b) (w := V) (by repeat (first | exact Q.refl _ | refine Q.drew ?_ | refine Q.drewN ?_ _ | refine Q.alloc ?_ _))).trans (Fp.ofGrown hgrow (fun x hx => hx))
         have k1 := (f9.cell lH1 nH 1).trans c1
         have k2 := (f9.frozen lH1 nH 1).trans fz1))
    all_goals
      have hA := H1.out.app (g := g9) (cap := cap9) (e := ⟨B, x, ps⟩) (by rw [HN.out]; exact hown) f9 (hat.imp id (fun q => by omega)) hlt (by show B < B + 1; omega)
      rw [HN.out] at hA
      have HU : Hid (Hep.HU (l ++ [⟨B, x, ps⟩]) n) := Lib.hid (by have := Hep.push HP.out ⟨B, x, ps⟩; rw [HN.out] at this; exact this)
      have k3 := (f9.cell lH1 nH 3).trans c3
      have k4 := (f9.frozen lH1 nH 3).trans H1.out.f3
      have hB := hA.setP (ps + 1)
      have kup := ((up_ok hB n (by rw [List.length_append, HN.out]; simp) (by rw [List.length_append, HN.out]; simp; omega) HU.out))
      have fB : Fp F V w9 := f9.mono (fun x hx => (H1.out.Fv x hx).1)
      have FB := Lib.hid ((fB.trans (Fp.ofFr ((Fr.refl H w9).setCell 1 (.slice (some ⟨g9, 0, none⟩) (n + 1) cap9)) H1.out.FH)).trans (Fp.ofFr ((Fr.refl H _).setCell 3 (.int .i64 (ps + 1))) H1.out.FH))
      have HG : Hid (Gw w.heap.size F (fun b => F b ∨ b = g9)) := Lib.hid (fun b hb => by
        rcases hb with q | q
        · exact .inl q
        · rcases hat with q2 | q2
          · rw [q]; exact .inl (H1.out.Fv g9 q2).1
          · right; have := HF.out.size; omega)
      clear hA hB hown hgrow hat hlt f9 fB c1 c3 fz1
      go_wp2_with (go_at_call 21; (with_reducible refine kup.mono ?_); rintro e w3 ⟨rfl, hh⟩; have HH := Lib.hid hh; clear hh)
      go_ret
      obtain ⟨l', h1, h2, h3, h4⟩ := HH.out
      exact ⟨rfl, _, _, l', h1, h2, h3, (HF.out.trans FB.out).andThen HG.out h4, HG.out⟩
end Go.Proofs.YtnmgcjkffeeapaaDoor
