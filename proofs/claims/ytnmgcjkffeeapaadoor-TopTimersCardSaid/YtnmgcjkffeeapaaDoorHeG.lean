/- The contracts of the heap's take and Pop. -/
import Derived.Test.YtnmgcjkffeeapaaDoorHeF
import Derived.BigRegion
namespace Go.Proofs.YtnmgcjkffeeapaaDoor
open Go.RowKit
set_option linter.unusedVariables false
set_option linter.unusedSimpArgs false
/-- delete, whose run is known, at a step of a region that draws -/
theorem step_delete {P : Program} {ops : Array Oper} {o : Oper} {a : Act} {w w' : World} {K : Act → World → Prop} {Q : Exit → Act → World → Prop} {E : Prop} (hgd : o.guard = none) (s x : Operand) (t1 t2 : TypeId)
    (ho : o.op = .call { callee := .builtin .delete, args := #[s, x], argTypes := #[t1, t2] }) (m k v : Value) (hs : a.eval s = m) (hx : a.eval x = k)
    (hr : (Builtin.delete_ #[t1, t2] o.type #[m, k]).run P w = .ok v w') (h : K (a.put o.dst v) w') : if Region.wanted o (yielded ops a.tmps) = true then Oper.wp P o a w K Q else E := by
  have hw : Region.wanted o (yielded ops a.tmps) = true := by simp [Region.wanted, hgd]
  rw [if_pos hw]
  unfold Oper.wp execOp
  simp only [ho, resolve, invoke, builtin, Sem.run_bind, Sem.run_pure, Result.andThen_ok, List.map_toArray, List.map_cons, List.map_nil, hs, hx, hr]
  exact h
section
variable {F : Nat → Prop} {H M : Nat} {l : List En} {ps B : Int} {w : World} {g n m cap : Nat}
theorem owns_shrink {base e size : Nat} {xs : List Value} (h : w.ownsRow base e size (.slice (some ⟨g, 0, none⟩) n cap) n xs) (hm : m ≤ n) : w.ownsRow base e size (.slice (some ⟨g, 0, none⟩) m cap) m (xs.take (m * size)) := by
  have hle : m * size ≤ n * size := Nat.mul_le_mul_right _ hm
  refine ⟨by rw [List.length_take, h.1]; omega, ?_⟩
  rcases h.2 with ⟨h', _⟩ | ⟨g', cap', cur, h', hb, hg, hnc, hcm, hcs, htake⟩
  · simp at h'
  · simp only [Value.slice.injEq, Option.some.injEq, Addr.mk.injEq, and_true, true_and] at h'
    obtain ⟨rfl, rfl⟩ := h'
    refine .inr ⟨g, cap, cur, rfl, hb, hg, by omega, hcm, hcs, ?_⟩
    rw [← htake, List.take_take, Nat.min_eq_left hle]
/-- the last entry is cut off -/
theorem HeAt.cut (h : HeAt F H M (.slice (some ⟨g, 0, none⟩) n cap) l ps B w) (hn : l.length = n) (hm : n = m + 1) :
    HeAt F H M (.slice (some ⟨g, 0, none⟩) m cap) (l.take m) ps B ((((w.setCell ⟨g, m * 3, none⟩ (.int .i64 0)).setCell ⟨g, m * 3 + 1, none⟩ (.int .i64 0)).setCell ⟨g, m * 3 + 2, none⟩ (.int .i64 0)).setCell ⟨H, 1, none⟩ (.slice (some ⟨g, 0, none⟩) m cap)) := by
  have lH : H < w.heap.size := h.Fl _ h.FH
  have lM : M < w.heap.size := h.Fl _ h.FM
  obtain ⟨Fg, gH, gM⟩ := h.Fv g rfl
  subst hn
  have r1 := row_set3 h.row rfl (j := m) (by omega) ⟨0, 0, 0⟩
  have f1 : Fp (fun b => b = g) w (((w.setCell ⟨g, m * 3, none⟩ (.int .i64 0)).setCell ⟨g, m * 3 + 1, none⟩ (.int .i64 0)).setCell ⟨g, m * 3 + 2, none⟩ (.int .i64 0)) := Fp.ofFr ((((Fr.refl g w).setCell _ _).setCell _ _).setCell _ _) rfl
  dsimp only at r1
  generalize ((w.setCell ⟨g, m * 3, none⟩ (.int .i64 0)).setCell ⟨g, m * 3 + 1, none⟩ (.int .i64 0)).setCell ⟨g, m * 3 + 2, none⟩ (.int .i64 0) = V at *
  have f2 : Fp (fun b => b = H) V (V.setCell ⟨H, 1, none⟩ (.slice (some ⟨g, 0, none⟩) m cap)) := Fp.ofFr ((Fr.refl H V).setCell 1 _) rfl
  have nH : ¬ H = g := fun q => gH q.symm
  have nM : ¬ M = g := fun q => gM q.symm
  have r2 := owns_shrink r1 (m := m) (by omega)
  have e1 : (cs (l.set m ⟨0, 0, 0⟩)).take (m * 3) = cs (l.take m) := by
    rw [cs_take, List.take_set_of_le (by omega)]
  rw [e1] at r2
  have hlen : (l.take m).length = m := by rw [List.length_take]; omega
  refine ⟨(sc_ne _ _ _ _ _ (by decide)).trans ((f1.cell lH nH _).trans h.c0), World.cell?_setCell_same _ _ _ ((f1.cell lH nH _).trans h.c1), (sc_ne _ _ _ _ _ (by decide)).trans ((f1.cell lH nH _).trans h.c2), (sc_ne _ _ _ _ _ (by decide)).trans ((f1.cell lH nH _).trans h.c3), by rw [World.frozen?_setCell]; exact (f1.frozen lH nH _).trans h.f1, by rw [World.frozen?_setCell]; exact (f1.frozen lH nH _).trans h.f3, ?_, ?_, fun x hx => h.ib x (List.mem_of_mem_take hx), h.FH, h.FM, ?_, fun b hb => Nat.lt_of_lt_of_le (h.Fl b hb) (Nat.le_trans f1.size f2.size), h.ne⟩
  · rw [hlen]
    exact f2.owns r2 (fun g' hg' => by simp [Value.ownBlock] at hg'; omega)
  · obtain ⟨ks, ⟨es, cl, hb, h2⟩, k2⟩ := h.mp
    exact ⟨ks, ⟨es, cl, (f2.block (Nat.lt_of_lt_of_le lM f1.size) (Ne.symm h.ne)).trans ((f1.block lM nM).trans hb), h2⟩, k2⟩
  · intro g' hg'
    have : g = g' := by simpa [Value.ownBlock] using hg'
    subst this
    exact ⟨Fg, gH, gM⟩
theorem HeAt.caps (h : HeAt F H M (.slice (some ⟨g, 0, none⟩) n cap) l ps B w) : n ≤ cap ∧ cap ≤ 9223372036854775807 := by
  rcases h.row.2 with ⟨h', _⟩ | ⟨g', cap', cur, h', hb, hg, hnc, hcm, hcs, htake⟩
  · simp at h'
  · simp only [Value.slice.injEq, Option.some.injEq, Addr.mk.injEq, and_true, true_and] at h'
    obtain ⟨rfl, e, rfl⟩ := h'
    unfold maxLen at hcm
    omega
/-- the first entry takes another one's place -/
theorem HeAt.put0 (h : HeAt F H M (.slice (some ⟨g, 0, none⟩) n cap) l ps B w) (hn : l.length = n) (h0 : 0 < n) (e : En) (he : e.id < B) :
    HeAt F H M (.slice (some ⟨g, 0, none⟩) n cap) (l.set 0 e) ps B (((w.setCell ⟨g, 0, none⟩ (.int .i64 e.id)).setCell ⟨g, 1, none⟩ (.int .i64 e.v)).setCell ⟨g, 2, none⟩ (.int .i64 e.p)) := by
  subst hn
  have r1 := row_set3 h.row rfl (j := 0) h0 e
  simp only [Nat.zero_mul, Nat.zero_add] at r1
  have f1 : Fp (fun b => (Value.slice (some ⟨g, 0, none⟩) l.length cap).ownBlock = some b) w (((w.setCell ⟨g, 0, none⟩ (.int .i64 e.id)).setCell ⟨g, 1, none⟩ (.int .i64 e.v)).setCell ⟨g, 2, none⟩ (.int .i64 e.p)) := Fp.ofFr ((((Fr.refl g w).setCell _ _).setCell _ _).setCell _ _) rfl
  refine h.setRow f1 (by rw [List.length_set]; exact r1) fun x hx => ?_
  rcases List.mem_or_eq_of_mem_set hx with q | q
  · exact h.ib x q
  · rw [q]; exact he
end
/-- what take leaves -/
def Taken (F : Nat → Prop) (H M : Nat) (l : List En) (ps B : Int) (w w' : World) : Prop := ∃ v' l', HeAt F H M v' l' ps B w' ∧ l'.Perm (Hep.popd l) ∧ Hep.Hp l' ∧ Fp F w w'
set_option maxRecDepth 100000 in
set_option maxHeartbeats 4000000 in
/-- the last entry is taken -/
theorem take_one {F : Nat → Prop} {H M : Nat} {v : Value} {l : List En} {ps B : Int} {w : World} (h : HeAt F H M v l ps B w) (hl : l.length = 1) (hp : Hep.Hp l) :
    Calls Tryd.prog 28 #[.pointer (some ⟨H, 0, none⟩), .int .i64 0] w fun e w' => e = .returned (.tuple #[]) ∧ Taken F H M l ps B w w' := by
  obtain ⟨g, cap, rfl⟩ := h.slice (by omega)
  rw [hl] at h
  have c1 := h.c1
  have c2 := h.c2
  have hcap := h.caps
  obtain ⟨i0, _, _, fz⟩ := row_cell (j := 0) (by rw [hl]; have := h.row; rw [hl] at this; exact this) (by omega)
  have n1 : H ≠ M := h.ne
  have n2 : g ≠ H := (h.Fv g rfl).2.1
  have n3 : g ≠ M := (h.Fv g rfl).2.2
  have km := fun (w : World) (es : Array MapEntry) (cl b o : Nat) (hb : b ≠ M) => setMap_cell w M es cl b o hb
  have hd := h.q (Q.refl w).drew
  obtain ⟨ks, m0, hnd, hkb⟩ := hd.mp
  obtain ⟨es1, cl1, r1, m1⟩ := mp_delete (P := Tryd.prog) m0 hnd Tryd.underlying56 Tryd.underlying3 (Hep.g l 0).id 0
  have h1 := hd.setM es1 cl1 _ _ B m1 (hnd.erase _) (fun x hx => hkb x (List.mem_of_mem_erase hx)) hd.ib
  have HF : Hid (Fp F w (setMap w.drew M es1 cl1)) := Lib.hid ((Fp.ofQ (Q.refl w).drew).trans (Fp.ofFs (setMap_fs w.drew M es1 cl1) (by simpa using hd.FM)))
  have H1 := Lib.hid h1
  have HR := Lib.hid r1
  have HL := Lib.hid hl
  have HP := Lib.hid hp
  generalize (Hep.g l 0).id = a0 at *
  clear h hd m0 hnd hkb m1 h1 r1 hl hp fz
  go_enter Tryd.func28, Tryd.ntmps28
  go_wp2_with fail
  go_region_held3 (fun w' => w'.cell? ⟨H, 1, none⟩ = some (.slice (some ⟨g, 0, none⟩) 1 cap) ∧ w'.cell? ⟨H, 2, none⟩ = some (.map (some M)) ∧ w'.cell? ⟨g, 0, none⟩ = some (.int .i64 a0)) (go_keep) ((refine step_delete (by rfl) _ _ 56 3 (by rfl) _ _ _ (by rfl) (by rfl) HR.out ?_))
  clear c1 c2 i0 km
  generalize setMap w.drew M es1 cl1 = V at *
  have c1 := H1.out.c1
  have z1 := H1.out.f1
  obtain ⟨i0, i1, i2, fz⟩ := row_cell (j := 0) (by rw [HL.out]; have := H1.out.row; rw [HL.out] at this; exact this) (by have := HL.out; omega)
  simp only [Nat.zero_mul, Nat.zero_add] at i0 i1 i2
  have f0 := fz 0
  have f1 := fz 1
  have f2 := fz 2
  have y1 : (1 : Int) ≤ (cap : Int) ∧ (cap : Int) ≤ 9223372036854775807 := by omega
  have n4 : H ≠ g := Ne.symm n2
  clear fz
  have hC := H1.out.cut (m := 0) HL.out rfl
  simp only [Nat.zero_mul, Nat.zero_add] at hC
  have HC := Lib.hid hC
  clear hC
  go_wp2_with fail
  go_end0
  refine ⟨rfl, _, _, HC.out, ?_, ?_, HF.out.trans ((Fp.ofFr ((((Fr.refl g V).setCell _ _).setCell _ _).setCell _ _) (H1.out.Fv g rfl).1).trans (Fp.ofFr ((Fr.refl H _).setCell _ _) H1.out.FH))⟩
  · rw [Hep.popd, HL.out]; simp
  · intro j h0 hj; simp at hj
set_option maxRecDepth 100000 in
set_option maxHeartbeats 4000000 in
/-- the first entry is taken -/
theorem take_more {F : Nat → Prop} {H M : Nat} {v : Value} {l : List En} {ps B : Int} {w : World} (h : HeAt F H M v l ps B w) (m : Nat) (hl : l.length = m + 1) (hm : 0 < m) (hm2 : m < 60) (hp : Hep.Hp l) :
    Calls Tryd.prog 28 #[.pointer (some ⟨H, 0, none⟩), .int .i64 0] w fun e w' => e = .returned (.tuple #[]) ∧ Taken F H M l ps B w w' := by
  obtain ⟨g, cap, rfl⟩ := h.slice (by omega)
  rw [hl] at h
  have c1 := h.c1
  have c2 := h.c2
  have hcap := h.caps
  obtain ⟨i0, _, _, fz⟩ := row_cell (j := 0) (by rw [hl]; have := h.row; rw [hl] at this; exact this) (by omega)
  have n1 : H ≠ M := h.ne
  have n2 : g ≠ H := (h.Fv g rfl).2.1
  have n3 : g ≠ M := (h.Fv g rfl).2.2
  have km := fun (w : World) (es : Array MapEntry) (cl b o : Nat) (hb : b ≠ M) => setMap_cell w M es cl b o hb
  have hd := h.q (Q.refl w).drew
  obtain ⟨ks, m0, hnd, hkb⟩ := hd.mp
  obtain ⟨es1, cl1, r1, m1⟩ := mp_delete (P := Tryd.prog) m0 hnd Tryd.underlying56 Tryd.underlying3 (Hep.g l 0).id 0
  have h1 := hd.setM es1 cl1 _ _ B m1 (hnd.erase _) (fun x hx => hkb x (List.mem_of_mem_erase hx)) hd.ib
  have HF : Hid (Fp F w (setMap w.drew M es1 cl1)) := Lib.hid ((Fp.ofQ (Q.refl w).drew).trans (Fp.ofFs (setMap_fs w.drew M es1 cl1) (by simpa using hd.FM)))
  have hib : (Hep.g l m).id < B := hd.ib _ (by rw [Hep.g_lt (by omega)]; exact List.getElem_mem _)
  obtain ⟨em, hem⟩ : ∃ em, Hep.g l m = em := ⟨_, rfl⟩
  have H1 := Lib.hid h1
  have HR := Lib.hid r1
  have HL := Lib.hid hl
  have HP := Lib.hid hp
  have HE := Lib.hid hem
  rw [hem] at hib
  generalize (Hep.g l 0).id = a0 at *
  have y0 : (0 : Int) < (m : Int) ∧ (m : Int) < 60 := by omega
  have y1 : (m : Int) + 1 ≤ (cap : Int) ∧ (cap : Int) ≤ 9223372036854775807 := by omega
  clear h hd m0 hnd hkb m1 h1 r1 hl hp fz hem hcap
  go_enter Tryd.func28, Tryd.ntmps28
  go_wp2_with fail
  go_region_held3 (fun w' => w'.cell? ⟨H, 1, none⟩ = some (.slice (some ⟨g, 0, none⟩) (m + 1) cap) ∧ w'.cell? ⟨H, 2, none⟩ = some (.map (some M)) ∧ w'.cell? ⟨g, 0, none⟩ = some (.int .i64 a0)) (go_keep) ((refine step_delete (by rfl) _ _ 56 3 (by rfl) _ _ _ (by rfl) (by rfl) HR.out ?_))
  clear c1 c2 i0 km HR
  generalize setMap w.drew M es1 cl1 = V at *
  have c1 := H1.out.c1
  obtain ⟨i0, i1, i2, fz⟩ := row_cell (j := 0) (by rw [HL.out]; have := H1.out.row; rw [HL.out] at this; exact this) (by have := HL.out; omega)
  obtain ⟨j0, j1, j2, _⟩ := row_cell (j := m) (by rw [HL.out]; have := H1.out.row; rw [HL.out] at this; exact this) (by have := HL.out; omega)
  rw [HE.out] at j0 j1 j2
  simp only [Nat.zero_mul, Nat.zero_add] at i0 i1 i2
  have f0 := fz 0
  have f1 := fz 1
  have f2 := fz 2
  have n4 : H ≠ g := Ne.symm n2
  clear fz
  have h2 := (H1.out.put0 HL.out (by omega) em hib).q (Q.refl _).drew
  have F2 : Hid (Fp F V (((V.setCell ⟨g, 0, none⟩ (.int .i64 em.id)).setCell ⟨g, 1, none⟩ (.int .i64 em.v)).setCell ⟨g, 2, none⟩ (.int .i64 em.p)).drew) := Lib.hid ((Fp.ofFr ((((Fr.refl g V).setCell _ _).setCell _ _).setCell _ _) (H1.out.Fv g rfl).1).trans (Fp.ofQ (Q.refl _).drew))
  have H2 := Lib.hid h2
  clear h2
  go_wp2_with fail
  go_region
  clear c1 i0 i1 i2 j0 j1 j2 f0 f1 f2
  generalize (((V.setCell ⟨g, 0, none⟩ (.int .i64 em.id)).setCell ⟨g, 1, none⟩ (.int .i64 em.v)).setCell ⟨g, 2, none⟩ (.int .i64 em.p)).drew = V2 at *
  have hls : (l.set 0 em).length = m + 1 := by rw [List.length_set]; exact HL.out
  have HS := Lib.hid hls
  have c1 := H2.out.c1
  have c2 := H2.out.c2
  have i0 := (row_cell (j := 0) (by rw [HS.out]; have := H2.out.row; rw [HS.out] at this; exact this) (by rw [HS.out]; omega)).1
  have e0 : Hep.g (l.set 0 em) 0 = em := by rw [Hep.g_set (by have := HL.out; omega), if_pos rfl]
  rw [e0, Nat.zero_mul] at i0
  have km := fun (w : World) (es : Array MapEntry) (cl b o : Nat) (hb : b ≠ M) => setMap_cell w M es cl b o hb
  have hd := H2.out.q (Q.refl V2).drew
  obtain ⟨ks, m0, hnd, hkb⟩ := hd.mp
  obtain ⟨es2, cl2, r2, m2⟩ := mp_update (P := Tryd.prog) m0 Tryd.underlying56 Tryd.underlying3 em.id (.int .i64 0)
  have q1 := nodup_put (k := em.id) hnd hkb hib
  have h3 := hd.setM es2 cl2 _ _ B m2 q1.1 q1.2 hd.ib
  have F3 : Hid (Fp F V2 (setMap V2.drew M es2 cl2)) := Lib.hid ((Fp.ofQ (Q.refl V2).drew).trans (Fp.ofFs (setMap_fs V2.drew M es2 cl2) (by simpa using hd.FM)))
  have H3 := Lib.hid h3
  clear hd m0 hnd hkb m2 q1 h3 hls e0
  go_wp2_with fail
  go_region_held3 (fun w' => w'.cell? ⟨H, 1, none⟩ = some (.slice (some ⟨g, 0, none⟩) (m + 1) cap) ∧ w'.cell? ⟨H, 2, none⟩ = some (.map (some M)) ∧ w'.cell? ⟨g, 0, none⟩ = some (.int .i64 em.id)) (go_keep) (fail)
  clear c1 c2 i0 km r2
  generalize setMap V2.drew M es2 cl2 = V3 at *
  have c1 := H3.out.c1
  have z1 := H3.out.f1
  obtain ⟨j0, j1, j2, fz⟩ := row_cell (j := m) (by rw [HS.out]; have := H3.out.row; rw [HS.out] at this; exact this) (by rw [HS.out]; omega)
  have f0 := fz (m * 3)
  have f1 := fz (m * 3 + 1)
  have f2 := fz (m * 3 + 2)
  clear fz
  have hC := H3.out.cut (m := m) HS.out rfl
  have e1 : (l.set 0 em).take m = Hep.popd l := by rw [Hep.popd, HL.out, Nat.add_sub_cancel, HE.out]
  rw [e1] at hC
  have hpl : (Hep.popd l).length = m := by rw [Hep.popd_len, HL.out]; omega
  have kd := down_ok hC 0 (by rw [hpl]; exact hm) (by rw [hpl]; omega) (Hep.pop HP.out)
  have kd' : Calls Tryd.prog 41 #[.pointer (some ⟨H, 0, none⟩), .int .i64 0] _ _ := kd
  have HPL := Lib.hid hpl
  have FC : Hid (Fp F V3 ((((V3.setCell ⟨g, m * 3, none⟩ (.int .i64 0)).setCell ⟨g, m * 3 + 1, none⟩ (.int .i64 0)).setCell ⟨g, m * 3 + 2, none⟩ (.int .i64 0)).setCell ⟨H, 1, none⟩ (.slice (some ⟨g, 0, none⟩) m cap))) := Lib.hid ((Fp.ofFr ((((Fr.refl g V3).setCell _ _).setCell _ _).setCell _ _) (H3.out.Fv g rfl).1).trans (Fp.ofFr ((Fr.refl H _).setCell _ _) H3.out.FH))
  clear hC kd e1 hpl
  go_wp2_with (go_at_call 41; (with_reducible refine kd'.mono ?_); rintro e w4 ⟨rfl, hh⟩; have HH := Lib.hid hh; clear hh)
  obtain ⟨l4, h4, p4, hp4, f4⟩ := HH.out
  have hl4 : l4.length = m := by rw [p4.length_eq]; exact HPL.out
  have ku : Calls Tryd.prog 21 #[.pointer (some ⟨H, 0, none⟩), .int .i64 0] _ _ := up_ok h4 0 (by rw [hl4]; exact hm) (by rw [hl4]; omega) ⟨fun j h0 hj _ => hp4 j h0 hj, fun c _ _ _ q => absurd q (by omega)⟩
  have P4 := Lib.hid p4
  have F4 := Lib.hid f4
  clear h4 p4 hp4 f4 hl4
  (with_reducible refine ku.mono ?_)
  rintro e w5 ⟨rfl, hh5⟩
  have H5 := Lib.hid hh5
  clear hh5
  go_wp2_with fail
  go_end0
  obtain ⟨l5, h5, p5, hp5, f5⟩ := H5.out
  exact ⟨rfl, _, l5, h5, p5.trans P4.out, hp5, ((((HF.out.trans F2.out).trans F3.out).trans FC.out).trans F4.out).trans f5⟩
theorem take_ok {F : Nat → Prop} {H M : Nat} {v : Value} {l : List En} {ps B : Int} {w : World} (h : HeAt F H M v l ps B w) (hl : 0 < l.length ∧ l.length ≤ 60) (hp : Hep.Hp l) :
    Calls Tryd.prog 28 #[.pointer (some ⟨H, 0, none⟩), .int .i64 0] w fun e w' => e = .returned (.tuple #[]) ∧ Taken F H M l ps B w w' := by
  by_cases e : l.length = 1
  · exact take_one h e hp
  · exact take_more h (l.length - 1) (by omega) (by omega) (by omega) hp
theorem pop_ok {F : Nat → Prop} {H M : Nat} {v : Value} {l : List En} {ps B : Int} {w : World} (h : HeAt F H M v l ps B w) (hl : 0 < l.length ∧ l.length ≤ 60) (hp : Hep.Hp l) :
    Calls Tryd.prog 11 #[.pointer (some ⟨H, 0, none⟩)] w fun e w' => e = .returned (.tuple #[.int .i64 (Hep.g l 0).id, .bool true]) ∧ Taken F H M l ps B w w' := by
  have kt := top_yes h hl.1
  have kk := take_ok h hl hp
  generalize (Hep.g l 0).id = a at *
  clear h hl hp
  go_enter Tryd.func11, Tryd.ntmps11
  go_wp2_with (first
    | (go_at_call 12; (with_reducible refine kt.mono ?_); rintro e w2 ⟨rfl, rfl⟩)
    | (go_at_call 28; (with_reducible refine kk.mono ?_); rintro e w3 ⟨rfl, hh⟩; have HH := Lib.hid hh; clear hh))
  go_ret2
  exact ⟨rfl, HH.out⟩
end Go.Proofs.YtnmgcjkffeeapaaDoor
