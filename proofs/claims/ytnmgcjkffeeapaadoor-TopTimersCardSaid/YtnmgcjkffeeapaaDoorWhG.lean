/- The wheel's map and arena; the contracts of remove, valid and Len. -/
import Derived.Test.YtnmgcjkffeeapaaDoorWhB
import Derived.Test.YtnmgcjkffeeapaaDoorHeG
import Derived.Test.YtnmgcjkffeeapaaDoorArB
import Derived.WalkSpells
namespace Go.Proofs.YtnmgcjkffeeapaaDoor
open Go.RowKit
set_option linter.unusedVariables false
set_option linter.unusedSimpArgs false
def hnd (i : Nat) : Int := 4096 + (i : Int)
/-- the wheel's map and arena: the timers of S -/
def Wz (A Sb M N n : Nat) (S : Nat → Bool) (fresh : Prop) (w : World) : Prop :=
  ∃ (al : List Nat) (alive : Nat → Bool) (fr tk : Int), ArAt A Sb N n alive fr tk w ∧ MpAt M (al.map hnd) [] w ∧ al.Nodup ∧ (∀ i, i ∈ al ↔ S i = true) ∧ (∀ i, S i = true → i < n ∧ i < N ∧ alive i = true) ∧ tk = (al.length : Int) ∧ (fresh → fr = -1)
section
variable {A Sb M N n : Nat} {S : Nat → Bool} {fresh : Prop} {w w' : World} {G : Nat → Prop}
theorem Wz.fp (h : Wz A Sb M N n S fresh w) (hf : Fp G w w') (h1 : ¬ G A) (h2 : ¬ G Sb) (h3 : ¬ G M) : Wz A Sb M N n S fresh w' := by
  obtain ⟨al, alive, fr, tk, ha, ⟨es, cl, hb, hk⟩, r⟩ := h
  have lA := ha.ltA
  have lS := ha.ltS
  have lM : M < w.heap.size := (Array.getElem?_eq_some_iff.1 hb).1
  refine ⟨al, alive, fr, tk, ?_, ⟨es, cl, (hf.block lM h3).trans hb, hk⟩, r⟩
  exact ⟨(hf.cell lA h1 0).trans ha.a0, (hf.cell lA h1 1).trans ha.a1, (hf.cell lA h1 2).trans ha.a2, (hf.cell lA h1 3).trans ha.a3, (hf.cell lA h1 4).trans ha.a4, (hf.frozen lA h1 2).trans ha.g2, (hf.frozen lA h1 3).trans ha.g3, (hf.frozen lA h1 4).trans ha.g4,
    fun k hk => (hf.cell lS h2 _).trans (ha.s0 k hk), fun k hk => (ha.s1 k hk).imp fun v hv => (hf.cell lS h2 _).trans hv, fun k hk => (hf.cell lS h2 _).trans (ha.s2 k hk), fun k hk => (ha.s3 k hk).imp fun v hv => (hf.cell lS h2 _).trans hv, fun j hj => (hf.frozen lS h2 j).trans (ha.sf j hj), ha.bd, ha.ne, ha.nb⟩
theorem Wz.q (h : Wz A Sb M N n S fresh w) (hq : Q w w') : Wz A Sb M N n S fresh w' := h.fp (G := fun _ => False) (Fp.ofQ hq) id id id
theorem Wz.old (h : Wz A Sb M N n S fresh w) : Wz A Sb M N n S False w := by
  obtain ⟨al, alive, fr, tk, a, b, c, d, e, f, g⟩ := h
  exact ⟨al, alive, fr, tk, a, b, c, d, e, f, fun q => q.elim⟩
theorem Wz.lt (h : Wz A Sb M N n S fresh w) : A < w.heap.size ∧ Sb < w.heap.size ∧ M < w.heap.size := by
  obtain ⟨al, alive, fr, tk, ha, hm, r⟩ := h
  exact ⟨ha.ltA, ha.ltS, hm.lt⟩
theorem Wz.bd (h : Wz A Sb M N n S fresh w) : ∀ i, S i = true → i < n ∧ i < N := by
  obtain ⟨al, alive, fr, tk, ha, hm, h1, h2, h3, r⟩ := h
  exact fun i hi => ⟨(h3 i hi).1, (h3 i hi).2.1⟩
theorem Wz.ne (h : Wz A Sb M N n S fresh w) : A ≠ Sb := by
  obtain ⟨al, alive, fr, tk, ha, r⟩ := h
  exact ha.ne
end
theorem hnd_inj {i k : Nat} (h : hnd i = hnd k) : i = k := by unfold hnd at h; omega
theorem map_erase_hnd : ∀ (l : List Nat) (i : Nat), (l.map hnd).erase (hnd i) = (l.erase i).map hnd
  | [], i => rfl
  | x :: l, i => by
    by_cases e : x = i
    · subst e; simp
    · have e2 : hnd x ≠ hnd i := fun q => e (hnd_inj q)
      rw [List.map_cons, List.erase_cons_tail (by simpa using e2), List.erase_cons_tail (by simpa using e), List.map_cons, map_erase_hnd l i]
theorem nodup_hnd {l : List Nat} (h : l.Nodup) : (l.map hnd).Nodup := by
  induction l with
  | nil => simp
  | cons x l ih =>
    rw [List.nodup_cons] at h
    rw [List.map_cons, List.nodup_cons]
    refine ⟨fun hm => ?_, ih h.2⟩
    obtain ⟨y, hy, e⟩ := List.mem_map.1 hm
    rw [hnd_inj e] at hy
    exact h.1 hy
theorem z61 (w : World) : (zeroValue 61).run Tryd.prog w = .ok (.pointer none) w := by kernel_rfl
section
variable {F : Nat → Prop} {W A Sb M N n now f seq : Nat} {T t : Nat → Nat} {idf : Nat → Int} {rows : Nat → List Nat} {S : Nat → Bool} {fresh : Prop} {w : World}
theorem Wl.tm (h : Wl F W A M n T t idf now f seq rows w) {i : Nat} (hi : i < n) : Tm T t idf i w ∧ F (T i) ∧ T i ≠ W := by
  obtain ⟨vs, us, h1, h2, h3, h4⟩ := h
  exact ⟨h2.tm i hi, h2.dT i hi⟩
theorem Wl.ptrs (h : Wl F W A M n T t idf now f seq rows w) : w.cell? ⟨W, 3, none⟩ = some (.pointer (some ⟨A, 0, none⟩)) ∧ w.cell? ⟨W, 4, none⟩ = some (.map (some M)) := by
  obtain ⟨vs, us, h1, h2, h3, h4⟩ := h
  exact ⟨h1.c3, h1.c4⟩
set_option maxRecDepth 100000 in
set_option maxHeartbeats 4000000 in
theorem remove_ok (h : Wl F W A M n T t idf now f seq rows w) (hz : Wz A Sb M N n S fresh w) (dA : ¬ F A) (dS : ¬ F Sb) (dM : ¬ F M) (nAM : A ≠ M) (nSM : Sb ≠ M) (hn : n ≤ 60) (i : Nat) (hi : S i = true) :
    Calls Tryd.prog 27 #[.pointer (some ⟨W, 0, none⟩), .pointer (some ⟨T i, 0, none⟩)] w fun e w' => e = .returned (.tuple #[]) ∧ Wz A Sb M N n (Whp.rem S i) False w' ∧ Fp (fun b => b = A ∨ b = Sb ∨ b = M) w w' := by
  obtain ⟨al, alive, fr, tk, ha, hm, h1, h2, h3, h4, h5⟩ := hz
  obtain ⟨hin, hiN, hia⟩ := h3 i hi
  have hmem := (h2 i).2 hi
  obtain ⟨c3, c4⟩ := h.ptrs
  obtain ⟨ht, fT, nT⟩ := h.tm hin
  have x2 := ht.c2
  have n1 : W ≠ M := fun e => dM (e ▸ h.FW)
  have n2 : T i ≠ M := fun e => dM (e ▸ fT)
  have km := fun (w : World) (es : Array MapEntry) (cl b o : Nat) (hb : b ≠ M) => setMap_cell w M es cl b o hb
  have hmd : MpAt M (al.map hnd) [] w.drew := by
    obtain ⟨es, cl, hb, hk⟩ := hm
    exact ⟨es, cl, hb, hk⟩
  obtain ⟨es1, cl1, r1, m1⟩ := mp_delete (P := Tryd.prog) hmd (nodup_hnd h1) Tryd.underlying48 Tryd.underlying32 (hnd i) 0
  rw [map_erase_hnd] at m1
  have f1 : Fp (fun b => b = M) w (setMap w.drew M es1 cl1) := (Fp.ofQ (Q.refl w).drew).trans (Fp.ofFs (setMap_fs w.drew M es1 cl1) (by simp))
  have ha1 : ArAt A Sb N n alive fr tk (setMap w.drew M es1 cl1) := (ha.q (Q.refl w).drew).fs (setMap_fs w.drew M es1 cl1) (by simpa using nAM) (by simpa using nSM)
  have htk : -60 < tk := by omega
  have kf := free_ok A Sb N n alive fr tk i _ (ha1.q (Q.refl _).drew) hiN hin hia htk
  have HM1 := Lib.hid m1
  have HF1 := Lib.hid f1
  have H1 := Lib.hid h1
  have H2 := Lib.hid h2
  have H3 := Lib.hid h3
  have H4 := Lib.hid h4
  have HME := Lib.hid hmem
  have HR := Lib.hid r1
  have HA := Lib.hid (And.intro nAM nSM)
  clear h ha hm h1 h2 h3 h4 h5 hin hiN hia hmem ht hmd m1 f1 ha1 htk r1
  unfold hnd at HR
  go_enter Tryd.func27, Tryd.ntmps27
  go_wp2_with fail
  go_region_held3 (fun w' => w'.cell? ⟨W, 3, none⟩ = some (.pointer (some ⟨A, 0, none⟩)) ∧ w'.cell? ⟨W, 4, none⟩ = some (.map (some M)) ∧ w'.cell? ⟨T i, 2, none⟩ = some (.int .i64 (4096 + (i : Int)))) (go_keep) ((refine step_delete (by rfl) _ _ 48 32 (by rfl) _ _ _ (by rfl) (by rfl) HR.out ?_))
  have k3 := (km w.drew es1 cl1 W 3 n1).trans c3
  have k2 := (km w.drew es1 cl1 (T i) 2 n2).trans x2
  clear c3 c4 x2 km HR
  generalize setMap w.drew M es1 cl1 = V at *
  go_wp2_with fail
  go_still_tail 8, (by kernel_rfl)
  go_wp2_with (go_at_call 40; (with_reducible refine kf.mono ?_); rintro e w3 ⟨rfl, hA3, hf3⟩; have HA3 := Lib.hid hA3; have HF3 := Lib.hid hf3; clear hA3 hf3)
  go_end0
  have fm : MpAt M ((al.erase i).map hnd) [] w3 := (HM1.out.fs (T := []) (Fs.ofQ (Q.refl V).drew) (by simp)).fs HF3.out (by simp; exact ⟨fun e => HA.out.1 e.symm, fun e => HA.out.2 e.symm⟩)
  refine ⟨rfl, ⟨al.erase i, _, _, _, HA3.out, fm, H1.out.erase _, fun k => ?_, fun k hk => ?_, ?_, fun q => q.elim⟩, ?_⟩
  · rw [H1.out.mem_erase_iff, H2.out k]
    unfold Whp.rem
    by_cases e : k = i <;> simp [e]
  · unfold Whp.rem at hk
    split at hk
    · cases hk
    · rename_i hne
      have := H3.out k hk
      exact ⟨this.1, this.2.1, by simp [hne, this.2.2]⟩
  · rw [List.length_erase_of_mem HME.out, H4.out]
    have : 0 < al.length := List.length_pos_of_mem HME.out
    omega
  · exact ((HF1.out.mono (fun x e => .inr (.inr e))).trans (Fp.ofQ (Q.refl V).drew)).trans (Fp.ofFs HF3.out (by simp))
theorem valid_ok (h : Wl F W A M n T t idf now f seq rows w) : Calls Tryd.prog 16 #[.pointer (some ⟨W, 0, none⟩)] w fun e w' => e = .returned (.bool true) ∧ w = w' := by
  have c4 := h.ptrs.2
  have kn := fun (w : World) => run_neq_map_nil (P := Tryd.prog) w 48 32 61 (some M) Tryd.underlying48
  clear h
  go_enter Tryd.func16, Tryd.ntmps16
  go_wp2_with fail
  go_ret
  exact ⟨rfl, rfl⟩
set_option maxRecDepth 100000 in
theorem wlen_ok (h : Wl F W A M n T t idf now f seq rows w) (hz : Wz A Sb M N n S fresh w) (hS : ∀ i, S i = false) : Calls Tryd.prog 14 #[.pointer (some ⟨W, 0, none⟩)] w fun e w' => e = .returned (.int .i64 0) ∧ w = w' := by
  have kv := valid_ok h
  have c4 := h.ptrs.2
  obtain ⟨al, alive, fr, tk, ha, hm, h1, h2, r⟩ := hz
  have e : al = [] := by
    cases al with
    | nil => rfl
    | cons x l => have := (h2 x).1 (by simp); rw [hS x] at this; cases this
  subst e
  have hl : (Builtin.len_ #[48] 3 #[.map (some M)]).run Tryd.prog w = .ok (.int .i64 0) w := by
    have := mp_len hm Tryd.underlying48 3
    simpa using this
  clear h ha hm h1 h2 r hS
  go_enter Tryd.func14, Tryd.ntmps14
  go_wp2_with (go_at_call 16; (with_reducible refine kv.mono ?_); rintro e w1 ⟨rfl, rfl⟩)
  go_ret
  exact ⟨rfl, rfl⟩
end
end Go.Proofs.YtnmgcjkffeeapaaDoor
