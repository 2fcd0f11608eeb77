/- The contract of the wheel's place. -/
import Derived.Test.YtnmgcjkffeeapaaDoorWhB
import Derived.BigRegion
import Derived.Deep.RegionLaw
import Derived.Deep.DeepCutAuto
namespace Go.Proofs.YtnmgcjkffeeapaaDoor
open Go.RowKit
set_option linter.unusedVariables false
set_option linter.unusedSimpArgs false
theorem info61 : (Tryd.prog.info? 61).map (fun i => (i.zero, i.size, i.bytes)) = some (some (.pointer none), 1, 8) := by kernel_rfl
/-- what place leaves -/
def Placed (F : Nat → Prop) (W A M n : Nat) (T t : Nat → Nat) (idf : Nat → Int) (now f seq : Nat) (rows : Nat → List Nat) (w w' : World) : Prop := ∃ F', Wl F' W A M n T t idf now f seq rows w' ∧ Fp F w w' ∧ Gw w.heap.size F F'
section
variable {F : Nat → Prop} {W A M n now f seq : Nat} {T t : Nat → Nat} {idf : Nat → Int} {rows : Nat → List Nat} {vs : Nat → Value} {us : Nat → Nat} {w : World}
theorem mem_upd (h : ∀ j i, i ∈ rows j → i < n) {i : Nat} (hi : i < n) (j : Nat) : ∀ k x, x ∈ upd rows j (rows j ++ [i]) k → x < n := by
  intro k x hx
  by_cases e : k = j
  · subst e
    rw [upd_same] at hx
    rcases List.mem_append.1 hx with q | q
    · exact h k x q
    · simp at q; rw [q]; exact hi
  · rw [upd_ne _ _ e] at hx
    exact h k x hx
theorem pl_mark4 (h1 : Rw W A M now f seq vs us w) (h2 : Rr F W n T t idf rows vs w) {i : Nat} (hi : i < n) (m : Nat) (a : Int) : Rw W A M now f seq vs us ((w.drewN m).setCell ⟨T i, 4, none⟩ (.int .i64 a)) ∧ Rr F W n T t idf rows vs ((w.drewN m).setCell ⟨T i, 4, none⟩ (.int .i64 a)) ∧ Fp F w ((w.drewN m).setCell ⟨T i, 4, none⟩ (.int .i64 a)) := by
  have q : Fp (fun b => b = T i) w (w.drewN m) := Fp.ofQ ((Q.refl w).drewN m)
  have f1 : Fp (fun b => b = T i) w ((w.drewN m).setCell ⟨T i, 4, none⟩ (.int .i64 a)) := q.trans (Fp.ofFr ((Fr.refl _ _).setCell 4 _) rfl)
  exact ⟨h1.fp f1 (fun e => (h2.dT i hi).2 e.symm), (h2.fp (G := fun _ => False) (Fp.ofQ ((Q.refl w).drewN m)) (fun _ _ _ => id)).setT hi 4 (.inl rfl) a, f1.mono (fun x e => by rw [e]; exact (h2.dT i hi).1)⟩
theorem pl_mark (h1 : Rw W A M now f seq vs us w) (h2 : Rr F W n T t idf rows vs w) {i : Nat} (hi : i < n) (m : Nat) (a b : Int) : Rw W A M now f seq vs us (((w.drewN m).setCell ⟨T i, 4, none⟩ (.int .i64 a)).setCell ⟨T i, 5, none⟩ (.int .i64 b)) ∧ Rr F W n T t idf rows vs (((w.drewN m).setCell ⟨T i, 4, none⟩ (.int .i64 a)).setCell ⟨T i, 5, none⟩ (.int .i64 b)) ∧ Fp F w (((w.drewN m).setCell ⟨T i, 4, none⟩ (.int .i64 a)).setCell ⟨T i, 5, none⟩ (.int .i64 b)) ∧ (((w.drewN m).setCell ⟨T i, 4, none⟩ (.int .i64 a)).setCell ⟨T i, 5, none⟩ (.int .i64 b)).cell? ⟨T i, 5, none⟩ = some (.int .i64 b) := by
  obtain ⟨a1, a2, a3⟩ := pl_mark4 h1 h2 hi m a
  generalize (w.drewN m).setCell ⟨T i, 4, none⟩ (.int .i64 a) = V at *
  have f1 : Fp (fun b => b = T i) V (V.setCell ⟨T i, 5, none⟩ (.int .i64 b)) := Fp.ofFr ((Fr.refl _ _).setCell 5 _) rfl
  obtain ⟨v5, x5⟩ := (a2.tm i hi).c5
  exact ⟨a1.fp f1 (fun e => (h2.dT i hi).2 e.symm), a2.setT hi 5 (.inr rfl) b, a3.trans (f1.mono (fun x e => by rw [e]; exact (h2.dT i hi).1)), World.cell?_setCell_same _ _ _ x5⟩
end
set_option maxRecDepth 100000 in
set_option maxHeartbeats 4000000 in
theorem place_4 {F : Nat → Prop} {W A M n now f seq : Nat} {T t : Nat → Nat} {idf : Nat → Int} {rows : Nat → List Nat} {w : World} (h : Wl F W A M n T t idf now f seq rows w) (i : Nat) (j : Nat) (hj : j = 256) (hi : i < n) (ht : t i < 1099511627776) (hf : f < 1099511627776) (hr : (rows j).length < 60) (hc : t i / 64 ≠ f / 64 ∧ t i / 4096 ≠ f / 4096 ∧ t i / 262144 ≠ f / 262144 ∧ t i / 16777216 ≠ f / 16777216) :
    Calls Tryd.prog 18 #[.pointer (some ⟨W, 0, none⟩), .pointer (some ⟨T i, 0, none⟩)] w fun e w' => e = .returned (.tuple #[]) ∧ Placed F W A M n T t idf now f seq (upd rows j (rows j ++ [i])) w w' := by
  have b0 : (((t i : Nat) : Int) / 64 != (f : Int) / 64) = true := bne_t (by omega)
  have b1 : (((t i : Nat) : Int) / 4096 != (f : Int) / 4096) = true := bne_t (by omega)
  have b2 : (((t i : Nat) : Int) / 262144 != (f : Int) / 262144) = true := bne_t (by omega)
  have b3 : (((t i : Nat) : Int) / 16777216 != (f : Int) / 16777216) = true := bne_t (by omega)
  obtain ⟨vs, us, h1, h2, h3, h4⟩ := h
  have H1 := Lib.hid h1
  have H2 := Lib.hid h2
  have H3 := Lib.hid h3
  have H4 := Lib.hid h4
  have c1 := h1.c1
  have x0 := (h2.tm i hi).c0
  obtain ⟨v4, x4⟩ := (h2.tm i hi).c4
  obtain ⟨v5, x5⟩ := (h2.tm i hi).c5
  have g4 := (h2.tm i hi).f4
  have g5 := (h2.tm i hi).f5
  have n1 : T i ≠ W := (h2.dT i hi).2
  have n2 : W ≠ T i := Ne.symm n1
  have hj2 : j < 257 := by omega
  have HJ : Hid (off j = 265) := Lib.hid (by unfold off; rw [if_pos hj])
  have HJ2 := Lib.hid hj
  have y1 : ((t i : Nat) : Int) < 1099511627776 := by omega
  have y2 : (f : Int) < 1099511627776 := by omega
  clear h1 h2 h3 h4 hc ht hf hj
  go_enter Tryd.func18, Tryd.ntmps18
  go_wp2_with fail
  refine wp_loop_rounds 6 ?_; rw [rounds_succ]
  go_wp2_with fail
  go_quiet (fail)
  revert nq
  intro m0
  go_wp2_with fail
  rw [rounds_succ]
  go_wp2_with fail
  go_quiet (fail)
  revert nq
  intro m1
  go_wp2_with fail
  rw [rounds_succ]
  go_wp2_with fail
  go_quiet (fail)
  revert nq
  intro m2
  go_wp2_with fail
  rw [rounds_succ]
  go_wp2_with fail
  go_quiet (fail)
  revert nq
  intro m3
  go_wp2_with fail
  rw [rounds_succ]
  go_upto_region 9 with fail
  have hM := Lib.hid (fun m => pl_mark4 H1.out H2.out hi m 4)
  clear c1 x0 x4 x5 g4 g5 b0 b1 b2 b3
  generalize hV : (w.drewN (m0 + m1 + m2 + m3)).setCell ⟨T i, 4, none⟩ (.int .i64 4) = V
  obtain ⟨m1, m2, m3⟩ : Rw W A M now f seq vs us V ∧ Rr F W n T t idf rows vs V ∧ Fp F w V := by rw [← hV]; exact hM.out _
  have cr := m1.cr j hj2
  have zr := m1.fr (off j) (off_lt hj2).1
  rw [HJ.out] at cr zr
  have HO := Lib.hid (m2.ow j hj2)
  have lW := m1.lt
  have lT := (m2.tm i hi).lt
  obtain ⟨v, hv⟩ : ∃ v, vs j = v := ⟨_, rfl⟩
  have nW : ¬ v.ownBlock = some W := fun q => (m2.dv j hj2 W (by rw [hv]; exact q)).2.1 rfl
  have nT : ¬ v.ownBlock = some (T i) := fun q => (m2.dv j hj2 _ (by rw [hv]; exact q)).2.2 i hi rfl
  have n3 : V.heap.size ≠ W := by omega
  have n4 : V.heap.size ≠ T i := by omega
  rw [hv] at cr HO
  obtain ⟨N, hN⟩ : ∃ N, (rows j).length = N := ⟨_, rfl⟩
  rw [hN] at hr HO
  have M1 := Lib.hid m1
  have M2 := Lib.hid m2
  have M3 := Lib.hid m3
  have HV := Lib.hid hv
  have HN := Lib.hid hN
  clear m1 m2 m3 hM hv hN hV
  obtain ⟨i0, ki, kz0, kz1, kz2⟩ := info_parts info61
  go_wp2_with (first
      | (refine wpList_append_lies _ (by rfl) _ _ 49 (by rfl) 0 61 i0 (.pointer none) 1 8 Tryd.underlying49 ki kz0 kz1 kz2 rfl (by decide) v N ((rows j).map fun i => Value.pointer (some ⟨T i, 0, none⟩)) (by rfl) ?_ ⟨V.heap.size, 0, none⟩ 1 1 [.pointer (some ⟨T i, 0, none⟩)] (by rfl) rfl ?_ (by simp [Value.oneCell']) (by decide) ?_ ?_ (Nat.zero_le _) (V.heap.size + 1) ?_ ?_
         · exact (Fp.ofQ (F := fun _ => False) (w := V) (by repeat (first | exact Q.refl _ | refine Q.drew ?_ | refine Q.drewN ?_ _ | refine Q.alloc ?_ _))).owns HO.out (fun _ _ => id)
         · exact World.news_of_block (heap_alloc_new _ _)
         · unfold maxLen; omega
         · omega
         · simp
         intro g9 cap9 w9 hown hgrow hat hlt
         have f9 : Fp (fun b => v.ownBlock = some b) V w9 := (Fp.ofQ (F := fun b => v.ownBlock = some b) (w := V) (by repeat (first | exact Q.refl _ | refine Q.drew ?_ | refine Q.drewN ?_ _ | refine Q.alloc ?_ _))).trans (Fp.ofGrown hgrow (fun x hx => hx))
         have k1 := (f9.cell lW nW 265).trans cr
         have k2 := (f9.frozen lW nW 265).trans zr))
  have hA := M2.out.app (w' := w9) j hj2 i g9 cap9 (by rw [HN.out]; exact hown) (by rw [HV.out]; exact ⟨f9.1, f9.2.1, f9.2.2.1, f9.size, fun k hk hne => f9.2.2.2.2 k hk (fun e => hne e.symm)⟩) (by rw [HV.out]; exact hat.imp id (fun q => by omega)) hlt
  obtain ⟨a1, a2, a3⟩ := hA
  have a4 := M1.out.fp f9 nW
  rw [HN.out] at a1
  have b1 := a4.setRow j hj2 (.slice (some ⟨g9, 0, none⟩) (N + 1) cap9)
  have b2 := a1.setW (off j) (.slice (some ⟨g9, 0, none⟩) (N + 1) cap9)
  rw [HJ.out] at b1 b2
  have FB := Lib.hid ((M3.out.trans a2).trans (Fp.ofFr ((Fr.refl W w9).setCell (265) (.slice (some ⟨g9, 0, none⟩) (N + 1) cap9)) M2.out.FW))
  have GB : Hid (Gw w.heap.size F (fun b => F b ∨ b = g9)) := Lib.hid (fun b hb => (a3 b hb).imp id (fun q => Nat.le_trans M3.out.size q))
  skip
  clear a1 a2 a3 a4 hown hgrow hat hlt f9 k1 k2 cr zr
  go_end0
  refine ⟨rfl, _, ⟨_, _, b1, b2, ?_, mem_upd H4.out hi j⟩, FB.out, GB.out⟩
  have := usok_far H3.out (rows j ++ [i])
  rw [← HJ2.out] at this
  exact this
theorem ix_any (a L : Nat) (w : World) (ha : a < 1099511627776) (hL : L < 4) : Calls Tryd.prog 30 #[.int .i64 (a : Int), .int .i64 (L : Int)] w fun e w' => e = .returned (.int .i64 ((a / 2 ^ (6 * L) % 64 : Nat) : Int)) ∧ w = w' := by
  have y : (a : Int) < 1099511627776 := by omega
  have y2 : (L : Int) < 4 := by omega
  have h1 := i64_and63 ((a : Int) / 2 ^ (6 * L))
  have HE : Hid (((a / 2 ^ (6 * L) % 64 : Nat) : Int) = (a : Int) / 2 ^ (6 * L) % 64) := Lib.hid (by rw [Int.natCast_emod, Int.natCast_ediv]; simp)
  go_enter Tryd.func30, Tryd.ntmps30
  go_wp2_with fail
  go_ret
  exact ⟨ret_int HE.out.symm, rfl⟩
set_option maxRecDepth 100000 in
set_option maxHeartbeats 4000000 in
theorem place_near {F : Nat → Prop} {W A M n now f seq : Nat} {T t : Nat → Nat} {idf : Nat → Int} {rows : Nat → List Nat} {w : World} (h : Wl F W A M n T t idf now f seq rows w) (i L s j : Nat) (hL : L < 4) (hsl : s < 64) (hj : j = 64 * L + s) (hi : i < n) (ht : t i < 1099511627776) (hf : f < 1099511627776) (hr : (rows j).length < 60) (hne : ∀ k, k < L → (((t i : Nat) : Int) / 2 ^ (6 * (k + 1)) != (f : Int) / 2 ^ (6 * (k + 1))) = true) (heq : (((t i : Nat) : Int) / 2 ^ (6 * (L + 1)) != (f : Int) / 2 ^ (6 * (L + 1))) = false) (hs : t i / 2 ^ (6 * L) % 64 = s) :
    Calls Tryd.prog 18 #[.pointer (some ⟨W, 0, none⟩), .pointer (some ⟨T i, 0, none⟩)] w fun e w' => e = .returned (.tuple #[]) ∧ Placed F W A M n T t idf now f seq (upd rows j (rows j ++ [i])) w w' := by
  obtain ⟨vs, us, h1, h2, h3, h4⟩ := h
  have kx := fun w2 => ix_any (t i) L w2 ht hL
  rw [hs] at kx
  have H1 := Lib.hid h1
  have H2 := Lib.hid h2
  have H3 := Lib.hid h3
  have H4 := Lib.hid h4
  have c1 := h1.c1
  have x0 := (h2.tm i hi).c0
  obtain ⟨v4, x4⟩ := (h2.tm i hi).c4
  obtain ⟨v5, x5⟩ := (h2.tm i hi).c5
  have g4 := (h2.tm i hi).f4
  have g5 := (h2.tm i hi).f5
  have n1 : T i ≠ W := (h2.dT i hi).2
  have n2 : W ≠ T i := Ne.symm n1
  have hj2 : j < 257 := by omega
  have HJ : Hid (off j = 5 + L * 64 + s) := Lib.hid (by unfold off; rw [if_neg (by omega)]; omega)
  have HJ2 := Lib.hid hj
  have HNE := Lib.hid hne
  have HEQ := Lib.hid heq
  have y1 : ((t i : Nat) : Int) < 1099511627776 := by omega
  have y2 : (f : Int) < 1099511627776 := by omega
  have y3 : (0 : Int) ≤ (s : Int) ∧ (s : Int) < 64 := by omega
  have y4 : (0 : Int) ≤ (L : Int) ∧ (L : Int) < 4 := by omega
  clear h1 h2 h3 h4 hs ht hf hj hne heq
  go_enter Tryd.func18, Tryd.ntmps18
  go_wp2_with fail
  go_loopw [5] (fun a wr => ∃ k m : Nat, a = .int .i64 (k : Int) ∧ k ≤ L ∧ wr = w.drewN m) (fun a _ => L - (intOf a).toNat)
  case atStart => exact ⟨0, 0, rfl, Nat.zero_le _, rfl⟩
  case round =>
    obtain ⟨k, m, rfl, hk, rfl⟩ := hrel
    have y5 : (k : Int) < 4 := by omega
    by_cases hkL : k < L
    · have b := HNE.out k hkL
      go_wp2_with fail
      go_quiet (fail)
      go_wp2_with fail
      go_roundw
      case rel => exact ⟨k + 1, m + nq, by go_num, by omega, by simp⟩
      case measure => simp [intOf]; omega
    obtain rfl : k = L := by omega
    have b := HEQ.out
    go_wp2_with fail
    go_quiet (fail)
    revert nq
    intro m1
    go_wp2_with (go_at_call 30; (with_reducible refine (kx _).mono ?_); rintro e w1 ⟨rfl, rfl⟩)
    have hM := Lib.hid (fun m => pl_mark H1.out H2.out hi m (k : Int) (s : Int))
    clear c1 x0 x4 x5 g4 g5 kx b HNE HEQ
    generalize hV : ((w.drewN (m + m1)).setCell ⟨T i, 4, none⟩ (.int .i64 (k : Int))).setCell ⟨T i, 5, none⟩ (.int .i64 (s : Int)) = V
    obtain ⟨m1, m2, m3, x5⟩ : Rw W A M now f seq vs us V ∧ Rr F W n T t idf rows vs V ∧ Fp F w V ∧ V.cell? ⟨T i, 5, none⟩ = some (.int .i64 (s : Int)) := by rw [← hV]; exact hM.out _
    have cr := m1.cr j hj2
    have zr := m1.fr (off j) (off_lt hj2).1
    rw [HJ.out] at cr zr
    have HO := Lib.hid (m2.ow j hj2)
    have lW := m1.lt
    have lT := (m2.tm i hi).lt
    obtain ⟨v, hv⟩ : ∃ v, vs j = v := ⟨_, rfl⟩
    have nW : ¬ v.ownBlock = some W := fun q => (m2.dv j hj2 W (by rw [hv]; exact q)).2.1 rfl
    have nT : ¬ v.ownBlock = some (T i) := fun q => (m2.dv j hj2 _ (by rw [hv]; exact q)).2.2 i hi rfl
    have n3 : V.heap.size ≠ W := by omega
    have n4 : V.heap.size ≠ T i := by omega
    rw [hv] at cr HO
    obtain ⟨N, hN⟩ : ∃ N, (rows j).length = N := ⟨_, rfl⟩
    rw [hN] at hr HO
    have M1 := Lib.hid m1
    have M2 := Lib.hid m2
    have M3 := Lib.hid m3
    have HV := Lib.hid hv
    have HN := Lib.hid hN
    clear m1 m2 m3 hM hv hN hV
    obtain ⟨i0, ki, kz0, kz1, kz2⟩ := info_parts info61
    go_wp2_with fail
    go_region_law (first
      | (refine step_append_lies _ (by rfl) _ _ 49 (by rfl) 0 61 i0 (.pointer none) 1 8 Tryd.underlying49 ki kz0 kz1 kz2 rfl (by decide) v N ((rows j).map fun i => Value.pointer (some ⟨T i, 0, none⟩)) (by rfl) ?_ ⟨V.heap.size, 0, none⟩ 1 1 [.pointer (some ⟨T i, 0, none⟩)] (by rfl) rfl ?_ (by simp [Value.oneCell']) (by decide) ?_ ?_ (Nat.zero_le _) (V.heap.size + 1) ?_ ?_
         · exact (Fp.ofQ (F := fun _ => False) (w := V) (by repeat (first | exact Q.refl _ | refine Q.drew ?_ | refine Q.drewN ?_ _ | refine Q.alloc ?_ _))).owns HO.out (fun _ _ => id)
         · exact World.news_of_block (heap_alloc_new _ _)
         · unfold maxLen; omega
         · omega
         · simp
         intro g9 cap9 w9 hown hgrow hat hlt
         have f9 : Fp (fun b => v.ownBlock = some b) V w9 := (Fp.ofQ (F := fun b => v.ownBlock = some b) (w := V) (by repeat (first | exact Q.refl _ | refine Q.drew ?_ | refine Q.drewN ?_ _ | refine Q.alloc ?_ _))).trans (Fp.ofGrown hgrow (fun x hx => hx))
         have k1 := (f9.cell lW nW (5 + k * 64 + s)).trans cr
         have k2 := (f9.frozen lW nW (5 + k * 64 + s)).trans zr
         have k3 := (f9.cell lT nT 5).trans x5))
    all_goals
      have hA := M2.out.app (w' := w9) j hj2 i g9 cap9 (by rw [HN.out]; exact hown) (by rw [HV.out]; exact ⟨f9.1, f9.2.1, f9.2.2.1, f9.size, fun k hk hne => f9.2.2.2.2 k hk (fun e => hne e.symm)⟩) (by rw [HV.out]; exact hat.imp id (fun q => by omega)) hlt
      obtain ⟨a1, a2, a3⟩ := hA
      have a4 := M1.out.fp f9 nW
      rw [HN.out] at a1
      have b1 := a4.setRow j hj2 (.slice (some ⟨g9, 0, none⟩) (N + 1) cap9)
      have b2 := a1.setW (off j) (.slice (some ⟨g9, 0, none⟩) (N + 1) cap9)
      rw [HJ.out] at b1 b2
      have FB := Lib.hid ((M3.out.trans a2).trans (Fp.ofFr ((Fr.refl W w9).setCell (5 + k * 64 + s) (.slice (some ⟨g9, 0, none⟩) (N + 1) cap9)) M2.out.FW))
      have GB : Hid (Gw w.heap.size F (fun b => F b ∨ b = g9)) := Lib.hid (fun b hb => (a3 b hb).imp id (fun q => Nat.le_trans M3.out.size q))
      have x5 := ((Fp.ofFr (F := fun b => b = W) ((Fr.refl W w9).setCell (5 + k * 64 + s) (.slice (some ⟨g9, 0, none⟩) (N + 1) cap9)) rfl).cell (Nat.lt_of_lt_of_le lT f9.size) n1 5).trans k3
      clear a1 a2 a3 a4 hown hgrow hat hlt f9 k1 k2 k3 cr zr
      generalize w9.setCell ⟨W, 5 + k * 64 + s, none⟩ (.slice (some ⟨g9, 0, none⟩) (N + 1) cap9) = V3 at *
      have u1 := b1.cu k hL
      have u2 := b1.fr (261 + k) (by omega)
      have B1 := Lib.hid b1
      have B2 := Lib.hid b2
      obtain ⟨u, hu⟩ : ∃ u, us k = u := ⟨_, rfl⟩
      have hu64 := (H3.out k hL).1
      rw [hu] at u1 hu64
      have HU := Lib.hid hu
      have hp64 : 2 ^ s < 2 ^ 64 := Nat.pow_lt_pow_right (by omega) hsl
      have w1 : IntKind.u64.wrap ((2 : Int) ^ s) = (2 : Int) ^ s := by
        have := u64_wrap hp64
        simpa using this
      have w2 := bu_or hu64 hp64
      have HE : Hid (bits .or .u64 (u : Int) ((2 : Int) ^ s) = ((u ||| 2 ^ s : Nat) : Int)) := Lib.hid (by simpa using w2)
      clear b1 b2 hu hu64 hp64 w2
      go_wp2_with fail
      go_region
      go_wp2_with fail
      refine bodyPost_ret (v := .tuple #[]) (by simp [results, Tryd.results18, go_sem]) rfl ⟨rfl, _, ?_, FB.out.trans ?_, GB.out⟩
      · rw [HE.out]
        refine Wl.q (w := V3.setCell ⟨W, 261 + k, none⟩ (.int .u64 ((u ||| 2 ^ s : Nat) : Int))) ⟨_, _, B1.out.setUsed k hL (u ||| 2 ^ s), B2.out.setW _ _, ?_, mem_upd H4.out hi j⟩ (Q.refl _).drew
        have := usok_set H3.out (L := k) hL hsl i
        rw [HU.out, ← HJ2.out] at this
        exact this
      · exact (Fp.ofFr ((Fr.refl W V3).setCell (261 + k) _) M2.out.FW).trans (Fp.ofQ (Q.refl _).drew)
theorem place_ok {F : Nat → Prop} {W A M n now f seq : Nat} {T t : Nat → Nat} {idf : Nat → Int} {rows : Nat → List Nat} {w : World} (h : Wl F W A M n T t idf now f seq rows w) (i : Nat) (hi : i < n) (ht : t i < 1099511627776) (hf : f < 1099511627776) (hr : (rows (Whp.loc (t i) f)).length < 60) :
    Calls Tryd.prog 18 #[.pointer (some ⟨W, 0, none⟩), .pointer (some ⟨T i, 0, none⟩)] w fun e w' => e = .returned (.tuple #[]) ∧ Placed F W A M n T t idf now f seq (upd rows (Whp.loc (t i) f) (rows (Whp.loc (t i) f) ++ [i])) w w' := by
  rcases Whp.loc_cases (t i) f with ⟨h1, h2⟩ | ⟨h0, h1, h2⟩ | ⟨h0, h1, h2⟩ | ⟨h0, h1, h2⟩ | ⟨h1, h2⟩
  · exact place_near h i 0 (t i % 64) _ (by omega) (by omega) (by omega) hi ht hf hr (fun k hk => by omega) (bne_f (by simp; omega)) (by simp)
  · exact place_near h i 1 (t i / 64 % 64) _ (by omega) (by omega) (by omega) hi ht hf hr (fun k hk => by
      obtain rfl : k = 0 := by omega
      exact bne_t (by simp; omega)) (bne_f (by simp; omega)) (by simp)
  · exact place_near h i 2 (t i / 4096 % 64) _ (by omega) (by omega) (by omega) hi ht hf hr (fun k hk => by
      have : k = 0 ∨ k = 1 := by omega
      rcases this with rfl | rfl <;> exact bne_t (by simp; omega)) (bne_f (by simp; omega)) (by simp)
  · exact place_near h i 3 (t i / 262144 % 64) _ (by omega) (by omega) (by omega) hi ht hf hr (fun k hk => by
      have : k = 0 ∨ k = 1 ∨ k = 2 := by omega
      rcases this with rfl | rfl | rfl <;> exact bne_t (by simp; omega)) (bne_f (by simp; omega)) (by simp)
  · exact place_4 h i _ h2 hi ht hf hr ⟨by omega, by omega, by omega, h1⟩
end Go.Proofs.YtnmgcjkffeeapaaDoor
