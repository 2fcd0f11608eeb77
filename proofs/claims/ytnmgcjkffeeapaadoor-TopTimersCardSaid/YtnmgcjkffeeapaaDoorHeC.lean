/- The contract of the heap's swap. -/
import Derived.Test.YtnmgcjkffeeapaaDoorHeA
import Derived.BigRegion
namespace Go.Proofs.YtnmgcjkffeeapaaDoor
open Go.RowKit
set_option linter.unusedVariables false
set_option linter.unusedSimpArgs false
theorem swap_row {F : Nat → Prop} {H M g n cap : Nat} {l : List En} {ps B : Int} {w : World} {i k : Nat} {ei ek : En} (h : HeAt F H M (.slice (some ⟨g, 0, none⟩) n cap) l ps B w) (hn : l.length = n) (hi : i < n) (hk : k < n) (hei : Hep.g l i = ei) (hek : Hep.g l k = ek) :
    HeAt F H M (.slice (some ⟨g, 0, none⟩) n cap) (Hep.swap l i k) ps B ((((((w.setCell ⟨g, i * 3, none⟩ (.int .i64 ek.id)).setCell ⟨g, i * 3 + 1, none⟩ (.int .i64 ek.v)).setCell ⟨g, i * 3 + 2, none⟩ (.int .i64 ek.p)).setCell ⟨g, k * 3, none⟩ (.int .i64 ei.id)).setCell ⟨g, k * 3 + 1, none⟩ (.int .i64 ei.v)).setCell ⟨g, k * 3 + 2, none⟩ (.int .i64 ei.p)).drew ∧
    Fp F w ((((((w.setCell ⟨g, i * 3, none⟩ (.int .i64 ek.id)).setCell ⟨g, i * 3 + 1, none⟩ (.int .i64 ek.v)).setCell ⟨g, i * 3 + 2, none⟩ (.int .i64 ek.p)).setCell ⟨g, k * 3, none⟩ (.int .i64 ei.id)).setCell ⟨g, k * 3 + 1, none⟩ (.int .i64 ei.v)).setCell ⟨g, k * 3 + 2, none⟩ (.int .i64 ei.p)).drew := by
  have hF : Fr g w ((((((w.setCell ⟨g, i * 3, none⟩ (.int .i64 ek.id)).setCell ⟨g, i * 3 + 1, none⟩ (.int .i64 ek.v)).setCell ⟨g, i * 3 + 2, none⟩ (.int .i64 ek.p)).setCell ⟨g, k * 3, none⟩ (.int .i64 ei.id)).setCell ⟨g, k * 3 + 1, none⟩ (.int .i64 ei.v)).setCell ⟨g, k * 3 + 2, none⟩ (.int .i64 ei.p)) := (((((((Fr.refl g w).setCell _ _).setCell _ _).setCell _ _).setCell _ _).setCell _ _).setCell _ _)
  subst hn
  have r1 := row_set3 h.row rfl hi ek
  have r1' : (((w.setCell ⟨g, i * 3, none⟩ (.int .i64 ek.id)).setCell ⟨g, i * 3 + 1, none⟩ (.int .i64 ek.v)).setCell ⟨g, i * 3 + 2, none⟩ (.int .i64 ek.p)).ownsRow 0 67 3 (.slice (some ⟨g, 0, none⟩) l.length cap) (l.set i ek).length (cs (l.set i ek)) := by rw [List.length_set]; exact r1
  have r2 := row_set3 r1' (by simp) (j := k) (by simpa using hk) ei
  have e : (l.set i ek).set k ei = Hep.swap l i k := by rw [← hei, ← hek]; rfl
  rw [e, List.length_set] at r2
  have hid := ids_swap hi hk h.ib
  generalize hW : ((((((w.setCell ⟨g, i * 3, none⟩ (.int .i64 ek.id)).setCell ⟨g, i * 3 + 1, none⟩ (.int .i64 ek.v)).setCell ⟨g, i * 3 + 2, none⟩ (.int .i64 ek.p)).setCell ⟨g, k * 3, none⟩ (.int .i64 ei.id)).setCell ⟨g, k * 3 + 1, none⟩ (.int .i64 ei.v)).setCell ⟨g, k * 3 + 2, none⟩ (.int .i64 ei.p)) = V at *
  have h2 := h.setRow (l' := Hep.swap l i k) (Fp.ofFr hF rfl) (by rw [Hep.swap_len]; exact r2) hid
  exact ⟨h2.q (Q.refl _).drew, (Fp.ofFr hF (h.Fv g rfl).1).trans (Fp.ofQ (Q.refl _).drew)⟩
theorem setMap_cell (w : World) (M : Nat) (es : Array MapEntry) (cl b o : Nat) (hb : b ≠ M) : (setMap w M es cl).cell? ⟨b, o, none⟩ = w.cell? ⟨b, o, none⟩ := by
  have : (setMap w M es cl).heap[b]? = w.heap[b]? := by simp [setMap, Ne.symm hb]
  simp only [World.cell?, this]
theorem nodup_put {ks : List Int} {k B : Int} (h : ks.Nodup) (hb : ∀ x ∈ ks, x < B) (hk : k < B) : (if k ∈ ks then ks else ks ++ [k]).Nodup ∧ ∀ x ∈ (if k ∈ ks then ks else ks ++ [k]), x < B := by
  split
  · exact ⟨h, hb⟩
  · rename_i hn
    refine ⟨?_, fun x hx => ?_⟩
    · rw [List.nodup_append]
      refine ⟨h, by simp, fun a ha b hb e => ?_⟩
      simp at hb
      subst e hb
      exact hn ha
    · rcases List.mem_append.1 hx with q | q
      · exact hb x q
      · simp at q; omega
set_option maxRecDepth 100000 in
set_option maxHeartbeats 4000000 in
theorem swap_ok {F : Nat → Prop} {H M : Nat} {v : Value} {l : List En} {ps B : Int} {w : World} (h : HeAt F H M v l ps B w) (i k : Nat) (hi : i < l.length) (hk : k < l.length) (hik : i ≠ k) (hl : l.length ≤ 60) :
    Calls Tryd.prog 32 #[.pointer (some ⟨H, 0, none⟩), .int .i64 (i : Int), .int .i64 (k : Int)] w fun e w' => e = .returned (.tuple #[]) ∧ HeAt F H M v (Hep.swap l i k) ps B w' ∧ Fp F w w' := by
  obtain ⟨g, cap, rfl⟩ := h.slice (by omega)
  obtain ⟨i0, i1, i2, fz⟩ := row_cell h.row hi
  obtain ⟨k0, k1, k2, _⟩ := row_cell h.row hk
  have hgi : Hep.g (Hep.swap l i k) i = Hep.g l k := by
    rw [Hep.g_swap hi hk]
    split
    · rename_i e; rw [e]
    · rw [if_pos rfl]
  have hgk : Hep.g (Hep.swap l i k) k = Hep.g l i := by
    rw [Hep.g_swap hi hk, if_pos rfl]
  have hls : (Hep.swap l i k).length = l.length := Hep.swap_len _ _ _
  have c1 := h.c1
  obtain ⟨n, hn⟩ : ∃ n, l.length = n := ⟨_, rfl⟩
  rw [hn] at c1 hi hk hl h hls ⊢
  have fi0 := fz (i * 3)
  have fi1 := fz (i * 3 + 1)
  have fi2 := fz (i * 3 + 2)
  have fk0 := fz (k * 3)
  have fk1 := fz (k * 3 + 1)
  have fk2 := fz (k * 3 + 2)
  have y1 : (0 : Int) ≤ (i : Int) ∧ (i : Int) < (n : Int) := by omega
  have y2 : (0 : Int) ≤ (k : Int) ∧ (k : Int) < (n : Int) := by omega
  have y3 : (n : Int) ≤ 60 := by omega
  have n1 : g ≠ H := (h.Fv g rfl).2.1
  have n2 : H ≠ g := Ne.symm n1
  have n3 : H ≠ M := h.ne
  have n4 : g ≠ M := (h.Fv g rfl).2.2
  have km := fun (w : World) (es : Array MapEntry) (cl b o : Nat) (hb : b ≠ M) => setMap_cell w M es cl b o hb
  obtain ⟨ei, hei⟩ : ∃ ei, Hep.g l i = ei := ⟨_, rfl⟩
  obtain ⟨ek, hek⟩ : ∃ ek, Hep.g l k = ek := ⟨_, rfl⟩
  have HS := Lib.hid (swap_row h hn hi hk hei hek)
  rw [hei] at i0 i1 i2 hgk
  rw [hek] at k0 k1 k2 hgi
  generalize Hep.swap l i k = l' at *
  have HGi := Lib.hid hgi
  have HGk := Lib.hid hgk
  have HLS := Lib.hid hls
  clear h hn fz hei hek hgi hgk hls
  go_enter Tryd.func32, Tryd.ntmps32
  go_wp2_with fail
  go_region
  clear i0 i1 i2 k0 k1 k2 c1 fi0 fi1 fi2 fk0 fk1 fk2
  have hV := HS.out.1
  have FV := Lib.hid HS.out.2
  clear HS
  generalize ((((((w.setCell ⟨g, i * 3, none⟩ (.int .i64 ek.id)).setCell ⟨g, i * 3 + 1, none⟩ (.int .i64 ek.v)).setCell ⟨g, i * 3 + 2, none⟩ (.int .i64 ek.p)).setCell ⟨g, k * 3, none⟩ (.int .i64 ei.id)).setCell ⟨g, k * 3 + 1, none⟩ (.int .i64 ei.v)).setCell ⟨g, k * 3 + 2, none⟩ (.int .i64 ei.p)).drew = V at *
  have c1 := hV.c1
  have c2 := hV.c2
  have i0 := (row_cell (j := i) hV.row (by rw [HLS.out]; exact hi)).1
  have k0 := (row_cell (j := k) hV.row (by rw [HLS.out]; exact hk)).1
  rw [HGi.out] at i0
  rw [HGk.out] at k0
  have bi : ek.id < B := by
    have := hV.ib (Hep.g l' i) (by rw [Hep.g_lt (by rw [HLS.out]; exact hi)]; exact List.getElem_mem _)
    rw [HGi.out] at this; exact this
  have bk : ei.id < B := by
    have := hV.ib (Hep.g l' k) (by rw [Hep.g_lt (by rw [HLS.out]; exact hk)]; exact List.getElem_mem _)
    rw [HGk.out] at this; exact this
  have hVd := hV.q (Q.refl V).drew
  obtain ⟨ks, m0, hnd, hkb⟩ := hVd.mp
  obtain ⟨x1, s1, es1, cl1, r1, m1⟩ := mp_entry (P := Tryd.prog) m0 Tryd.underlying56 Tryd.underlying3 (Tryd.zeroValue3 _) ek.id
  obtain ⟨es2, cl2, r2, m2⟩ := mp_store (P := Tryd.prog) (mty := 56) m1 s1 (by simp) (.int .i64 (i : Int))
  obtain ⟨x3, s3, es3, cl3, r3, m3⟩ := mp_entry (P := Tryd.prog) m2.none Tryd.underlying56 Tryd.underlying3 (Tryd.zeroValue3 _) ei.id
  obtain ⟨es4, cl4, r4, m4⟩ := mp_store (P := Tryd.prog) (mty := 56) m3 s3 (by simp) (.int .i64 (k : Int))
  go_wp2_with fail
  go_region_held3 (fun w' => w'.cell? ⟨H, 1, none⟩ = some (.slice (some ⟨g, 0, none⟩) n cap) ∧ w'.cell? ⟨H, 2, none⟩ = some (.map (some M)) ∧ w'.cell? ⟨g, i * 3, none⟩ = some (.int .i64 ek.id) ∧ w'.cell? ⟨g, k * 3, none⟩ = some (.int .i64 ei.id)) (go_keep) (fail)
  go_wp2_with fail
  go_end0
  have q1 := nodup_put hnd hkb bi
  have q2 := nodup_put q1.1 q1.2 bk
  have h1 := hVd.setM es1 cl1 _ _ B m1 q1.1 q1.2 hVd.ib
  have h2 := h1.setM es2 cl2 _ _ B m2 q1.1 q1.2 hVd.ib
  have h3 := h2.setM es3 cl3 _ _ B m3 q2.1 q2.2 hVd.ib
  have h4 := h3.setM es4 cl4 _ _ B m4 q2.1 q2.2 hVd.ib
  have fm : ∀ (w : World) (es : Array MapEntry) (cl : Nat), Fp F w (setMap w M es cl) := fun w es cl => Fp.ofFs (setMap_fs w M es cl) (by simpa using hVd.FM)
  exact ⟨rfl, h4, FV.out.trans (((((Fp.ofQ (Q.refl V).drew).trans (fm _ _ _)).trans (fm _ _ _)).trans (fm _ _ _)).trans (fm _ _ _))⟩
end Go.Proofs.YtnmgcjkffeeapaaDoor
