/- The contract of wheel.Add. -/
import Derived.Test.YtnmgcjkffeeapaaDoorWhG
import Derived.Test.YtnmgcjkffeeapaaDoorWhF
import Derived.Deep.DeepCutAuto
namespace Go.Proofs.YtnmgcjkffeeapaaDoor
open Go.RowKit
set_option linter.unusedVariables false
set_option linter.unusedSimpArgs false
theorem ArAt.fp {A S N n : Nat} {alive : Nat → Bool} {fr tk : Int} {G : Nat → Prop} {w w' : World} (ha : ArAt A S N n alive fr tk w) (hf : Fp G w w') (h1 : ¬ G A) (h2 : ¬ G S) : ArAt A S N n alive fr tk w' := by
  have lA := ha.ltA
  have lS := ha.ltS
  exact ⟨(hf.cell lA h1 0).trans ha.a0, (hf.cell lA h1 1).trans ha.a1, (hf.cell lA h1 2).trans ha.a2, (hf.cell lA h1 3).trans ha.a3, (hf.cell lA h1 4).trans ha.a4, (hf.frozen lA h1 2).trans ha.g2, (hf.frozen lA h1 3).trans ha.g3, (hf.frozen lA h1 4).trans ha.g4,
    fun k hk => (hf.cell lS h2 _).trans (ha.s0 k hk), fun k hk => (ha.s1 k hk).imp fun v hv => (hf.cell lS h2 _).trans hv, fun k hk => (hf.cell lS h2 _).trans (ha.s2 k hk), fun k hk => (ha.s3 k hk).imp fun v hv => (hf.cell lS h2 _).trans hv, fun j hj => (hf.frozen lS h2 j).trans (ha.sf j hj), ha.bd, ha.ne, ha.nb⟩
theorem map_upd {n b : Nat} {T : Nat → Nat} {l : List Nat} (h : ∀ i ∈ l, i < n) : (l.map fun i => Value.pointer (some ⟨upd T n b i, 0, none⟩)) = l.map fun i => Value.pointer (some ⟨T i, 0, none⟩) := by
  refine List.map_congr_left fun i hi => ?_
  rw [upd_ne _ _ (by have := h i hi; omega)]
/-- a timer is made -/
theorem Wl.timer {F : Nat → Prop} {W A M n now f seq : Nat} {T t : Nat → Nat} {idf : Nat → Int} {rows : Nat → List Nat} {w : World} (h : Wl F W A M n T t idf now f seq rows w) (ty : TypeId) :
    Wl (fun b => F b ∨ b = w.heap.size) W A M (n + 1) (upd T n w.heap.size) t idf now f seq rows (w.alloc (.cells #[.int .i64 (t n : Int), .int .i64 (idf n), .int .i64 (4096 + (n : Int)), .int .i64 ((n : Int) + 1), .int .i64 0, .int .i64 0] ty)) := by
  obtain ⟨vs, us, h1, h2, h3, h4⟩ := h
  have q : Q w (w.alloc (.cells #[.int .i64 (t n : Int), .int .i64 (idf n), .int .i64 (4096 + (n : Int)), .int .i64 ((n : Int) + 1), .int .i64 0, .int .i64 0] ty)) := (Q.refl w).alloc _
  have ca : ∀ k v, (#[.int .i64 (t n : Int), .int .i64 (idf n), .int .i64 (4096 + (n : Int)), .int .i64 ((n : Int) + 1), .int .i64 0, .int .i64 0] : Array Value)[k]? = some v → (w.alloc (.cells #[.int .i64 (t n : Int), .int .i64 (idf n), .int .i64 (4096 + (n : Int)), .int .i64 ((n : Int) + 1), .int .i64 0, .int .i64 0] ty)).cell? ⟨w.heap.size, k, none⟩ = some v := by
    intro k v hk
    rw [World.cell?]; simp only [heap_alloc_new]; exact hk
  have fa : ∀ k, (w.alloc (.cells #[.int .i64 (t n : Int), .int .i64 (idf n), .int .i64 (4096 + (n : Int)), .int .i64 ((n : Int) + 1), .int .i64 0, .int .i64 0] ty)).frozen? ⟨w.heap.size, k, none⟩ = false := by
    intro k
    simp only [World.frozen?, heap_alloc_new]
    simp
  have hsz : (w.alloc (.cells #[.int .i64 (t n : Int), .int .i64 (idf n), .int .i64 (4096 + (n : Int)), .int .i64 ((n : Int) + 1), .int .i64 0, .int .i64 0] ty)).heap.size = w.heap.size + 1 := by simp
  have lW : W < w.heap.size := h2.Fl _ h2.FW
  have r := h2.fp (G := fun _ => False) (Fp.ofQ q) (fun _ _ _ => id)
  have c := h1.fp (G := fun _ => False) (Fp.ofQ q) id
  generalize w.alloc (.cells #[.int .i64 (t n : Int), .int .i64 (idf n), .int .i64 (4096 + (n : Int)), .int .i64 ((n : Int) + 1), .int .i64 0, .int .i64 0] ty) = V at *
  refine ⟨vs, us, c, ⟨fun j hj => ?_, fun i hi => ?_, .inl r.FW, fun b hb => ?_, fun j hj b hb => ?_, r.dd, fun i hi => ?_, fun i k hi hk e => ?_⟩, h3, fun j i hi => Nat.lt_succ_of_lt (h4 j i hi)⟩
  · rw [map_upd (h4 j)]; exact r.ow j hj
  · by_cases e : i = n
    · subst e
      refine ⟨?_, ?_, ?_, ?_, ⟨0, ?_⟩, ⟨0, ?_⟩, ?_, ?_⟩ <;> rw [upd_same]
      · exact ca 0 _ rfl
      · exact ca 1 _ rfl
      · exact ca 2 _ rfl
      · exact ca 3 _ rfl
      · exact ca 4 _ rfl
      · exact ca 5 _ rfl
      · exact fa 4
      · exact fa 5
    · have hi2 : i < n := by omega
      have := r.tm i hi2
      refine ⟨?_, ?_, ?_, ?_, ?_, ?_, ?_, ?_⟩ <;> rw [upd_ne _ _ e]
      · exact this.c0
      · exact this.c1
      · exact this.c2
      · exact this.c3
      · exact this.c4
      · exact this.c5
      · exact this.f4
      · exact this.f5
  · rcases hb with q | q
    · exact r.Fl b q
    · rw [q, hsz]; omega
  · have := r.dv j hj b hb
    refine ⟨.inl this.1, this.2.1, fun i hi => ?_⟩
    by_cases e : i = n
    · subst e
      rw [upd_same]
      have := h2.Fl b (h2.dv j hj b hb).1
      omega
    · rw [upd_ne _ _ e]; exact this.2.2 i (by omega)
  · by_cases e : i = n
    · subst e; rw [upd_same]; exact ⟨.inr rfl, by omega⟩
    · rw [upd_ne _ _ e]; exact ⟨.inl (r.dT i (by omega)).1, (r.dT i (by omega)).2⟩
  · by_cases e1 : i = n
    · by_cases e2 : k = n
      · rw [e1, e2]
      · subst e1
        rw [upd_same, upd_ne _ _ e2] at e
        have := h2.Fl _ (h2.dT k (by omega)).1
        omega
    · by_cases e2 : k = n
      · subst e2
        rw [upd_same, upd_ne _ _ e1] at e
        have := h2.Fl _ (h2.dT i (by omega)).1
        omega
      · rw [upd_ne _ _ e1, upd_ne _ _ e2] at e
        exact r.dI i k (by omega) (by omega) e
/-- what Add leaves -/
def Added (F : Nat → Prop) (W A Sb M N n : Nat) (T t : Nat → Nat) (idf : Nat → Int) (now f : Nat) (S : Nat → Bool) (rows : Nat → List Nat) (w w' : World) : Prop :=
  ∃ F' b, Wl F' W A M (n + 1) (upd T n b) t idf now f (n + 1) (upd rows (Whp.loc (t n) f) (rows (Whp.loc (t n) f) ++ [n])) w' ∧ Wz A Sb M N (n + 1) (Whp.ins S n) True w' ∧ Fp (fun b => F b ∨ b = A ∨ b = Sb ∨ b = M) w w' ∧ Gw w.heap.size F F'
section
variable {F : Nat → Prop} {W A Sb M N n now f : Nat} {T t : Nat → Nat} {idf : Nat → Int} {rows : Nat → List Nat} {S : Nat → Bool} {w : World}
set_option maxRecDepth 100000 in
set_option maxHeartbeats 4000000 in
theorem add_ok (h : Wl F W A M n T t idf now f n rows w) (hz : Wz A Sb M N n S True w) (dA : ¬ F A) (dS : ¬ F Sb) (dM : ¬ F M) (nAM : A ≠ M) (nSM : Sb ≠ M) (hn : n < N) (hN : N ≤ 60) (ht : now < t n ∧ t n < 1099511627776) (hf : f < 1099511627776) (hr : (rows (Whp.loc (t n) f)).length < 60) (hSn : S n = false) (hal : ∀ i, S i = true → i < n) :
    Calls Tryd.prog 8 #[.pointer (some ⟨W, 0, none⟩), .int .i64 (t n : Int), .int .i64 (idf n)] w fun e w' => ∃ hd : Int, e = .returned (.tuple #[.int .i64 hd, .int .i64 0]) ∧ Added F W A Sb M N n T t idf now f S rows w w' := by
  have kv := valid_ok h
  obtain ⟨al, alive, fr, tk, ha, hm, h1, h2, h3, h4, h5⟩ := hz
  have htk : tk < 60 := by
    have := nodup_le n al h1 (fun x hx => hal x ((h2 x).1 hx))
    omega
  have hfr := h5 trivial
  subst hfr
  have kp := put_ok A Sb N n alive tk (idf n) w ha hn htk
  obtain ⟨c3, c4⟩ := h.ptrs
  have c0 : w.cell? ⟨W, 0, none⟩ = some (.int .i64 (now : Int)) := by
    obtain ⟨vs, us, q, _⟩ := h
    exact q.c0
  have n1 : W ≠ M := fun e => dM (e ▸ h.FW)
  have n2 : W ≠ A := fun e => dA (e ▸ h.FW)
  have n3 : W ≠ Sb := fun e => dS (e ▸ h.FW)
  have y1 : decide ((t n : Int) < 0) = false := by simp
  have y2 : decide ((4611686018427387904 : Int) < (t n : Int)) = false := decide_eq_false (by omega)
  have y3 : decide ((t n : Int) ≤ (now : Int)) = false := decide_eq_false (by omega)
  have H := Lib.hid h
  have HM := Lib.hid hm
  have H1 := Lib.hid h1
  have H2 := Lib.hid h2
  have H3 := Lib.hid h3
  have H4 := Lib.hid h4
  have HA := Lib.hid (And.intro nAM nSM)
  have HD := Lib.hid (And.intro dA (And.intro dS dM))
  have HT := Lib.hid ht
  have HR := Lib.hid hr
  have HSn := Lib.hid hSn
  have hn60 : (n : Int) < 60 := by omega
  clear h ha hm h1 h2 h3 h4 h5 hr hSn
  go_enter Tryd.func8, Tryd.ntmps8
  go_upto_region 8 with (first
    | (go_at_call 16; (with_reducible refine kv.mono ?_); rintro e w1 ⟨rfl, rfl⟩)
    | (go_at_call 17; (with_reducible refine kp.mono ?_); rintro e w1 ⟨rfl, hA1, hf1⟩; have HA1 := Lib.hid hA1; have HF1 := Lib.hid hf1; clear hA1 hf1))
  have hW1 := H.out.fp (Fp.ofFs (F := fun b => b = A ∨ b = Sb) HF1.out (by simp)) (fun b hb q => by
    rcases q with rfl | rfl
    · exact HD.out.1 hb
    · exact HD.out.2.1 hb)
  have HW1 := Lib.hid hW1
  have hm1 : MpAt M (al.map hnd) [] w1 := HM.out.fs HF1.out (by simp; exact ⟨fun e => HA.out.1 e.symm, fun e => HA.out.2 e.symm⟩)
  have HM1 := Lib.hid hm1
  have c2 : w1.cell? ⟨W, 2, none⟩ = some (.int .i64 (n : Int)) ∧ w1.frozen? ⟨W, 2, none⟩ = false := by
    obtain ⟨vs, us, q, _⟩ := hW1
    exact ⟨q.c2, q.fr 2 (by omega)⟩
  obtain ⟨c2, z2⟩ := c2
  have c4' := hW1.ptrs.2
  have lW1 : W < w1.heap.size := hW1.Fl _ hW1.FW
  have n4 : w1.heap.size ≠ W := by omega
  clear hW1 hm1 c0 c3 c4 kv kp
  go_upto_region 12 with fail
  have hW2 := HW1.out.setSeq (n + 1)
  rw [show (((n + 1 : Nat)) : Int) = (n : Int) + 1 from by omega] at hW2
  have hW3 := hW2.timer 63
  have esz : (w1.setCell ⟨W, 2, none⟩ (.int .i64 ((n : Int) + 1))).heap.size = w1.heap.size := by simp
  rw [esz] at hW3
  have F3 : Fp F w1 ((w1.setCell ⟨W, 2, none⟩ (.int .i64 ((n : Int) + 1))).alloc (.cells #[.int .i64 (t n : Int), .int .i64 (idf n), .int .i64 (4096 + (n : Int)), .int .i64 ((n : Int) + 1), .int .i64 0, .int .i64 0] 63)) := (Fp.ofFr ((Fr.refl W w1).setCell 2 _) H.out.FW).trans (Fp.ofQ ((Q.refl _).alloc _))
  have HF3 := Lib.hid F3
  have sz3 : ((w1.setCell ⟨W, 2, none⟩ (.int .i64 ((n : Int) + 1))).alloc (.cells #[.int .i64 (t n : Int), .int .i64 (idf n), .int .i64 (4096 + (n : Int)), .int .i64 ((n : Int) + 1), .int .i64 0, .int .i64 0] 63)).heap.size = w1.heap.size + 1 := by simp
  clear c2 z2 c4' hW2 F3 esz
  generalize (w1.setCell ⟨W, 2, none⟩ (.int .i64 ((n : Int) + 1))).alloc (.cells #[.int .i64 (t n : Int), .int .i64 (idf n), .int .i64 (4096 + (n : Int)), .int .i64 ((n : Int) + 1), .int .i64 0, .int .i64 0] 63) = V at *
  have c4 := hW3.ptrs.2
  have lM1 : M < w1.heap.size := HM1.out.lt
  have hmV : MpAt M (al.map hnd) [] V := by
    obtain ⟨es, cl, hb, hk⟩ := HM1.out
    exact ⟨es, cl, (HF3.out.block lM1 HD.out.2.2).trans hb, hk⟩
  obtain ⟨es1, cl1, r1, m1⟩ := mp_update (P := Tryd.prog) hmV Tryd.underlying48 Tryd.underlying32 (4096 + (n : Int)) (.pointer (some ⟨w1.heap.size, 0, none⟩))
  have hnm : ¬ (4096 + (n : Int)) ∈ al.map hnd := by
    intro q
    obtain ⟨x, hx, e⟩ := List.mem_map.1 q
    have : x = n := hnd_inj e
    subst this
    have := (H2.out x).1 hx
    rw [HSn.out] at this
    cases this
  rw [if_neg hnm] at m1
  have fM : Fp (fun b => b = M) V (setMap V M es1 cl1) := Fp.ofFs (setMap_fs V M es1 cl1) (by simp)
  have hW4 := hW3.fp fM (fun b hb q => by
    rcases hb with hb | hb
    · exact HD.out.2.2 (q ▸ hb)
    · omega)
  have kpl := place_ok hW4 n (by omega) HT.out.2 hf HR.out
  rw [upd_same] at kpl
  have M1 := Lib.hid m1
  have FM := Lib.hid fM
  clear hW3 hmV m1 hnm fM hW4
  go_wp2_with (go_at_call 18; (with_reducible refine kpl.mono ?_); rintro e w4 ⟨rfl, hp⟩; have HP := Lib.hid hp; clear hp)
  go_ret2
  obtain ⟨F4, p1, p2, p3⟩ := HP.out
  have nM4 : ¬ (F M ∨ M = w1.heap.size) := by
    rintro (q | q)
    · exact HD.out.2.2 q
    · omega
  have g1 : Gw w1.heap.size F (fun b => F b ∨ b = w1.heap.size) := fun b hb => hb.imp id (fun q => by omega)
  have f13 : Fp (fun b => F b ∨ b = M) w1 (setMap V M es1 cl1) := (HF3.out.mono (fun x hx => .inl hx)).trans (FM.out.mono (fun x hx => .inr hx))
  have f14 : Fp (fun b => F b ∨ b = M) w1 w4 := f13.andThen (G := fun b => F b ∨ b = w1.heap.size) (fun b hb => hb.imp .inl (fun q => by omega)) p2
  have hA4 : ArAt A Sb N (n + 1) (fun k => if k = n then true else alive k) (-1) (tk + 1) w4 := HA1.out.fp f14 (by
    rintro (q | q)
    · exact HD.out.1 q
    · exact HA.out.1 q) (by
    rintro (q | q)
    · exact HD.out.2.1 q
    · exact HA.out.2 q)
  have hM4 : MpAt M ((al ++ [n]).map hnd) [] w4 := by
    rw [List.map_append]
    obtain ⟨es, cl, hb, hk⟩ := M1.out
    refine ⟨es, cl, (p2.block ?_ nM4).trans hb, hk⟩
    exact M1.out.lt
  refine ⟨_, rfl, F4, w1.heap.size, p1, ⟨al ++ [n], _, _, _, hA4, hM4, ?_, fun k => ?_, fun k hk => ?_, ?_, fun _ => rfl⟩, ?_, ?_⟩
  · rw [List.nodup_append]
    refine ⟨H1.out, by simp, fun a ha b hb e => ?_⟩
    simp at hb
    subst e hb
    have := (H2.out a).1 ha
    rw [HSn.out] at this
    cases this
  · rw [List.mem_append, H2.out k]
    unfold Whp.ins
    by_cases e : k = n <;> simp [e]
  · unfold Whp.ins at hk
    by_cases e : k = n
    · subst e; exact ⟨by omega, hn, by simp⟩
    · rw [if_neg e] at hk
      have := H3.out k hk
      exact ⟨by omega, this.2.1, by simp [e, this.2.2]⟩
  · rw [List.length_append, List.length_singleton, H4.out]; omega
  · refine Fp.trans (Fp.ofFs HF1.out (by simp)) (f14.mono fun x hx => ?_)
    rcases hx with q | q
    · exact .inl q
    · exact .inr (.inr (.inr q))
  · intro b hb
    have s1 := HF1.out.size
    rcases p3 b hb with (q | q) | q
    · exact .inl q
    · right; omega
    · right; have := HF3.out.size; rw [setMap_size] at q; omega
end
end Go.Proofs.YtnmgcjkffeeapaaDoor
