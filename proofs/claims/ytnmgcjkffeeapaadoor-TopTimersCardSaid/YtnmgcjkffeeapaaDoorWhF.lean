/- The contract of the wheel's enter. -/
import Derived.Test.YtnmgcjkffeeapaaDoorWhE
namespace Go.Proofs.YtnmgcjkffeeapaaDoor
open Go.RowKit
set_option linter.unusedVariables false
set_option linter.unusedSimpArgs false
theorem EnI.next {F : Nat → Prop} {W A M n now f seq : Nat} {T t : Nat → Nat} {idf : Nat → Int} {R : Nat → List Nat} {r : Nat} {v : Value} {w0 w w' : World} {F' : Nat → Prop} {k : Nat} (hk : k < (R r).length)
    (ho : w.ownsRow 0 61 1 v (R r).length ((R r).map fun i => Value.pointer (some ⟨T i, 0, none⟩))) (hg : ∀ g, v.ownBlock = some g → ¬ F' g) (hf : Fp F w0 w) (hG : Gw w0.heap.size F F')
    (hp : Placed F' W A M n T t idf now f seq (upd (Whp.mv t f R r k) (Whp.loc (t (R r)[k]) f) (Whp.mv t f R r k (Whp.loc (t (R r)[k]) f) ++ [(R r)[k]])) w w') : EnI F W A M n T t idf now f seq R r v w0 (.int .i64 (((k + 1 : Nat)) : Int)) w' := by
  obtain ⟨F2, h1, h2, h3⟩ := hp
  rw [mv_next] at h1
  refine ⟨k + 1, F2, rfl, hk, h1, h2.owns ho hg, fun g hg' q => ?_, hf.andThen hG h2, hG.trans h3 hf.size⟩
  rcases h3 g q with q2 | q2
  · exact hg g hg' q2
  · have := (ho.lt g hg').2
    omega
theorem Gw.back {n m : Nat} {F F' : Nat → Prop} (h : Gw m F F') (k : n ≤ m) : Gw n F F' := fun b hb => (h b hb).imp id (fun q => Nat.le_trans k q)
theorem EnI.done {F : Nat → Prop} {W A M n now f seq : Nat} {T t : Nat → Nat} {idf : Nat → Int} {R : Nat → List Nat} {r : Nat} {w0 w : World} {F' : Nat → Prop} (h : Wl F' W A M n T t idf now f seq (Whp.mv t f R r (R r).length) w) (hf : Fp F w0 w) (hG : Gw w0.heap.size F F') : Placed F W A M n T t idf now f seq (Whp.mv1 t f R r) w0 w := ⟨F', h, hf, hG⟩
set_option maxRecDepth 100000 in
set_option maxHeartbeats 4000000 in
theorem enter_near {F : Nat → Prop} {W A M n now f seq : Nat} {T t : Nat → Nat} {idf : Nat → Int} {rows : Nat → List Nat} {w : World} (h : Wl F W A M n T t idf now f seq rows w) (f' : Nat) (S : Nat → Bool) (hS : Wd S rows) (hn : n ≤ 60) (ht : ∀ i, i < n → t i < 1099511627776) (hf : f < 1099511627776) (hf' : f' < 1099511627776) (hc : f / 16777216 = f' / 16777216) :
    Calls Tryd.prog 23 #[.pointer (some ⟨W, 0, none⟩), .int .i64 (f' : Int)] w fun e w' => e = .returned (.tuple #[]) ∧ Placed F W A M n T t idf now f' seq (Whp.ent t f f' rows) w w' := by
  have b : (((f : Nat) : Int) / 16777216 != (f' : Int) / 16777216) = false := bne_f (by omega)
  have y1 : (f : Int) < 1099511627776 := by omega
  have y2 : (f' : Int) < 1099511627776 := by omega
  have HENT : Hid (Whp.ent t f f' rows = Whp.mv1 t f' (Whp.mv1 t f' (Whp.mv1 t f' rows (64 * 3 + f' / 262144 % 64)) (64 * 2 + f' / 4096 % 64)) (64 * 1 + f' / 64 % 64)) := Lib.hid (by unfold Whp.ent; rw [if_pos hc])
  have HN60 := Lib.hid hn
  have HT := Lib.hid ht
  have HB := Lib.hid hf'
  have h0 := h.setFrom f'
  have F0 : Fp F w (w.setCell ⟨W, 1, none⟩ (.int .i64 (f' : Int))) := Fp.ofFr ((Fr.refl W w).setCell 1 _) h.FW
  have hcells : w.cell? ⟨W, 1, none⟩ = some (.int .i64 (f : Int)) ∧ w.frozen? ⟨W, 1, none⟩ = false := by
    obtain ⟨vs, us, h1, _, _, _⟩ := h
    exact ⟨h1.c1, h1.fr 1 (by omega)⟩
  obtain ⟨c1, z1⟩ := hcells
  have HF0 := Lib.hid F0
  have H0 := Lib.hid h0
  have HS0 := Lib.hid hS
  obtain ⟨R0, hR0⟩ : ∃ R0, rows = R0 := ⟨_, rfl⟩
  have HR0 := Lib.hid hR0
  rw [hR0] at HENT
  clear h h0 F0 hS hn ht hf hf' hc hR0
  go_enter Tryd.func23, Tryd.ntmps23
  go_wp2_with fail
  generalize hV : w.setCell ⟨W, 1, none⟩ (.int .i64 (f' : Int)) = V at *
  have HO : Hid (EnO F W A M n T t idf now f' seq S R0 w (.int .i64 3) V) := Lib.hid ⟨F, R0, by rw [← HR0.out]; exact H0.out, by rw [← HR0.out]; exact HS0.out, HF0.out, Gw.refl _ _, .inl ⟨rfl, rfl⟩⟩
  clear c1 z1 b hV
  go_loopw [8] (fun a wr => EnO F W A M n T t idf now f' seq S R0 w a wr) (fun a _ => (intOf a).toNat)
  case atStart => exact HO.out
  case round =>
    clear HO
    obtain ⟨F1, R, hw, hd, hf1, hG1, hc⟩ := hrel
    obtain ⟨wo, rfl⟩ : ∃ wo : World, wo = wr := ⟨_, rfl⟩
    have HR := Lib.hid hw.mem
    have HD := Lib.hid hd
    have HF1 := Lib.hid hf1
    have HG1 := Lib.hid hG1
    have HW := Lib.hid hw
    clear hd hf1 hG1
    rcases hc with ⟨rfl, hR⟩ | ⟨rfl, hR⟩ | ⟨rfl, hR⟩ | ⟨rfl, hR⟩
    · have HRR := Lib.hid hR
      clear hR
      obtain ⟨s, hs⟩ : ∃ s, f' / 262144 % 64 = s := ⟨_, rfl⟩
      have HS := Lib.hid hs
      have kx := fun w2 => ix_3 f' w2 HB.out
      rw [hs] at kx
      have hsl : s < 64 := by omega
      have ke : Calls Tryd.prog 24 #[.pointer (some ⟨W, 0, none⟩), .int .i64 3, .int .i64 (s : Int)] _ _ := empty_ok hw 3 s (by omega) hsl
      clear hw hs
      go_wp2_with (go_at_call 30; (with_reducible refine (kx _).mono ?_); rintro e w1 ⟨rfl, rfl⟩)
      (with_reducible refine ke.mono ?_)
      rintro e w2 ⟨v, rfl, hE⟩
      have HI := Lib.hid (EnI.start hE)
      obtain ⟨N, hN⟩ : ∃ N, (R (64 * 3 + s)).length = N := ⟨_, rfl⟩
      have hNn : N ≤ 60 := by
        obtain ⟨c, hc⟩ := HD.out
        have := nodup_le n _ (hc (64 * 3 + s)).1 (HR.out _)
        have := HN60.out
        omega
      have HN := Lib.hid hN
      obtain ⟨F3, e1, e2, e3, e4, e5⟩ := hE
      rw [hN] at e2
      have hcap := e2.2
      clear e1 e2 e3 e4 e5 ke hN
      rcases hcap with ⟨rfl, rfl⟩ | ⟨g, cap, cur, rfl, _, _, _, _, _, _⟩
      · have hDN : Hid (Placed F1 W A M n T t idf now f' seq (Whp.mv1 t f' R (64 * 3 + s)) wo w2) := Lib.hid (by
          obtain ⟨k, F2, _, hk, hw, ho, hg, hf2, hG2⟩ := HI.out
          have : k = (R (64 * 3 + s)).length := by have := HN.out; omega
          subst this
          exact EnI.done hw hf2 hG2)
        clear HI
        go_wp2_with fail
        refine wp_loop_rounds 1 ?_; rw [rounds_succ]
        go_wp2_with fail
        go_roundw
        case rel =>
          obtain ⟨F2, d1, d2, d3⟩ := hDN.out
          exact ⟨F2, _, d1, HD.out.mv t f' _, HF1.out.andThen HG1.out d2, HG1.out.trans d3 HF1.out.size, .inr (.inl ⟨rfl, (by have h1 := HRR.out; have h2 := HS.out; subst h1 h2; rfl)⟩)⟩
        case measure => simp [intOf]
      · go_wp2_with fail
        go_loopw [52] (fun a wr => EnI F1 W A M n T t idf now f' seq R (64 * 3 + s) (.slice (some ⟨g, 0, none⟩) N cap) wo a wr) (fun a _ => N - (intOf a).toNat)
        case atStart => exact HI.out
        case round =>
          clear HI
          obtain ⟨k, F2, rfl, hk, hw, ho, hg, hf2, hG2⟩ := hrel
          rw [HN.out] at hk
          have y6 : (N : Int) ≤ 60 := by omega
          by_cases hkN : k < N
          · have hkl : k < (R (64 * 3 + s)).length := by rw [HN.out]; exact hkN
            have kp := place_ok hw (R (64 * 3 + s))[k] (HR.out _ _ (List.getElem_mem _)) (HT.out _ (HR.out _ _ (List.getElem_mem _))) HB.out (mv_small HD.out HN60.out HR.out t f' (64 * 3 + s) k hkl)
            have ck := row_ptr (by rw [HN.out] at ho ⊢; exact ho) k hkl
            have HNX := Lib.hid (fun w' hp => EnI.next (W := W) (A := A) (M := M) (n := n) (now := now) (f := f') (seq := seq) (t := t) (idf := idf) (w' := w') hkl ho hg hf2 hG2 hp)
            have y7 : (0 : Int) ≤ (k : Int) ∧ (k : Int) < (N : Int) := by omega
            clear hw ho hg hf2 hG2
            go_wp2_with (go_at_call 18; (with_reducible refine kp.mono ?_); rintro e w3 ⟨rfl, hp⟩; have HP3 := Lib.hid hp; clear hp)
            go_roundw
            case rel => exact HNX.out _ HP3.out
            case measure => simp [intOf]; omega
          · obtain rfl : k = N := by omega
            have hDN := Lib.hid (EnI.done (by rw [HN.out]; exact hw) hf2 hG2)
            clear hw ho hg hf2 hG2
            go_wp2_with fail
            go_roundw
            case rel =>
              obtain ⟨F2, d1, d2, d3⟩ := hDN.out
              exact ⟨F2, _, d1, HD.out.mv t f' _, HF1.out.andThen HG1.out d2, HG1.out.trans d3 HF1.out.size, .inr (.inl ⟨rfl, (by have h1 := HRR.out; have h2 := HS.out; subst h1 h2; rfl)⟩)⟩
            case measure => simp [intOf]
    · have HRR := Lib.hid hR
      clear hR
      obtain ⟨s, hs⟩ : ∃ s, f' / 4096 % 64 = s := ⟨_, rfl⟩
      have HS := Lib.hid hs
      have kx := fun w2 => ix_2 f' w2 HB.out
      rw [hs] at kx
      have hsl : s < 64 := by omega
      have ke : Calls Tryd.prog 24 #[.pointer (some ⟨W, 0, none⟩), .int .i64 2, .int .i64 (s : Int)] _ _ := empty_ok hw 2 s (by omega) hsl
      clear hw hs
      go_wp2_with (go_at_call 30; (with_reducible refine (kx _).mono ?_); rintro e w1 ⟨rfl, rfl⟩)
      (with_reducible refine ke.mono ?_)
      rintro e w2 ⟨v, rfl, hE⟩
      have HI := Lib.hid (EnI.start hE)
      obtain ⟨N, hN⟩ : ∃ N, (R (64 * 2 + s)).length = N := ⟨_, rfl⟩
      have hNn : N ≤ 60 := by
        obtain ⟨c, hc⟩ := HD.out
        have := nodup_le n _ (hc (64 * 2 + s)).1 (HR.out _)
        have := HN60.out
        omega
      have HN := Lib.hid hN
      obtain ⟨F3, e1, e2, e3, e4, e5⟩ := hE
      rw [hN] at e2
      have hcap := e2.2
      clear e1 e2 e3 e4 e5 ke hN
      rcases hcap with ⟨rfl, rfl⟩ | ⟨g, cap, cur, rfl, _, _, _, _, _, _⟩
      · have hDN : Hid (Placed F1 W A M n T t idf now f' seq (Whp.mv1 t f' R (64 * 2 + s)) wo w2) := Lib.hid (by
          obtain ⟨k, F2, _, hk, hw, ho, hg, hf2, hG2⟩ := HI.out
          have : k = (R (64 * 2 + s)).length := by have := HN.out; omega
          subst this
          exact EnI.done hw hf2 hG2)
        clear HI
        go_wp2_with fail
        refine wp_loop_rounds 1 ?_; rw [rounds_succ]
        go_wp2_with fail
        go_roundw
        case rel =>
          obtain ⟨F2, d1, d2, d3⟩ := hDN.out
          exact ⟨F2, _, d1, HD.out.mv t f' _, HF1.out.andThen HG1.out d2, HG1.out.trans d3 HF1.out.size, .inr (.inr (.inl ⟨rfl, (by have h1 := HRR.out; have h2 := HS.out; subst h1 h2; rfl)⟩))⟩
        case measure => simp [intOf]
      · go_wp2_with fail
        go_loopw [52] (fun a wr => EnI F1 W A M n T t idf now f' seq R (64 * 2 + s) (.slice (some ⟨g, 0, none⟩) N cap) wo a wr) (fun a _ => N - (intOf a).toNat)
        case atStart => exact HI.out
        case round =>
          clear HI
          obtain ⟨k, F2, rfl, hk, hw, ho, hg, hf2, hG2⟩ := hrel
          rw [HN.out] at hk
          have y6 : (N : Int) ≤ 60 := by omega
          by_cases hkN : k < N
          · have hkl : k < (R (64 * 2 + s)).length := by rw [HN.out]; exact hkN
            have kp := place_ok hw (R (64 * 2 + s))[k] (HR.out _ _ (List.getElem_mem _)) (HT.out _ (HR.out _ _ (List.getElem_mem _))) HB.out (mv_small HD.out HN60.out HR.out t f' (64 * 2 + s) k hkl)
            have ck := row_ptr (by rw [HN.out] at ho ⊢; exact ho) k hkl
            have HNX := Lib.hid (fun w' hp => EnI.next (W := W) (A := A) (M := M) (n := n) (now := now) (f := f') (seq := seq) (t := t) (idf := idf) (w' := w') hkl ho hg hf2 hG2 hp)
            have y7 : (0 : Int) ≤ (k : Int) ∧ (k : Int) < (N : Int) := by omega
            clear hw ho hg hf2 hG2
            go_wp2_with (go_at_call 18; (with_reducible refine kp.mono ?_); rintro e w3 ⟨rfl, hp⟩; have HP3 := Lib.hid hp; clear hp)
            go_roundw
            case rel => exact HNX.out _ HP3.out
            case measure => simp [intOf]; omega
          · obtain rfl : k = N := by omega
            have hDN := Lib.hid (EnI.done (by rw [HN.out]; exact hw) hf2 hG2)
            clear hw ho hg hf2 hG2
            go_wp2_with fail
            go_roundw
            case rel =>
              obtain ⟨F2, d1, d2, d3⟩ := hDN.out
              exact ⟨F2, _, d1, HD.out.mv t f' _, HF1.out.andThen HG1.out d2, HG1.out.trans d3 HF1.out.size, .inr (.inr (.inl ⟨rfl, (by have h1 := HRR.out; have h2 := HS.out; subst h1 h2; rfl)⟩))⟩
            case measure => simp [intOf]
    · have HRR := Lib.hid hR
      clear hR
      obtain ⟨s, hs⟩ : ∃ s, f' / 64 % 64 = s := ⟨_, rfl⟩
      have HS := Lib.hid hs
      have kx := fun w2 => ix_1 f' w2 HB.out
      rw [hs] at kx
      have hsl : s < 64 := by omega
      have ke : Calls Tryd.prog 24 #[.pointer (some ⟨W, 0, none⟩), .int .i64 1, .int .i64 (s : Int)] _ _ := empty_ok hw 1 s (by omega) hsl
      clear hw hs
      go_wp2_with (go_at_call 30; (with_reducible refine (kx _).mono ?_); rintro e w1 ⟨rfl, rfl⟩)
      (with_reducible refine ke.mono ?_)
      rintro e w2 ⟨v, rfl, hE⟩
      have HI := Lib.hid (EnI.start hE)
      obtain ⟨N, hN⟩ : ∃ N, (R (64 * 1 + s)).length = N := ⟨_, rfl⟩
      have hNn : N ≤ 60 := by
        obtain ⟨c, hc⟩ := HD.out
        have := nodup_le n _ (hc (64 * 1 + s)).1 (HR.out _)
        have := HN60.out
        omega
      have HN := Lib.hid hN
      obtain ⟨F3, e1, e2, e3, e4, e5⟩ := hE
      rw [hN] at e2
      have hcap := e2.2
      clear e1 e2 e3 e4 e5 ke hN
      rcases hcap with ⟨rfl, rfl⟩ | ⟨g, cap, cur, rfl, _, _, _, _, _, _⟩
      · have hDN : Hid (Placed F1 W A M n T t idf now f' seq (Whp.mv1 t f' R (64 * 1 + s)) wo w2) := Lib.hid (by
          obtain ⟨k, F2, _, hk, hw, ho, hg, hf2, hG2⟩ := HI.out
          have : k = (R (64 * 1 + s)).length := by have := HN.out; omega
          subst this
          exact EnI.done hw hf2 hG2)
        clear HI
        go_wp2_with fail
        refine wp_loop_rounds 1 ?_; rw [rounds_succ]
        go_wp2_with fail
        go_roundw
        case rel =>
          obtain ⟨F2, d1, d2, d3⟩ := hDN.out
          exact ⟨F2, _, d1, HD.out.mv t f' _, HF1.out.andThen HG1.out d2, HG1.out.trans d3 HF1.out.size, .inr (.inr (.inr ⟨rfl, (by have h1 := HRR.out; have h2 := HS.out; subst h1 h2; rfl)⟩))⟩
        case measure => simp [intOf]
      · go_wp2_with fail
        go_loopw [52] (fun a wr => EnI F1 W A M n T t idf now f' seq R (64 * 1 + s) (.slice (some ⟨g, 0, none⟩) N cap) wo a wr) (fun a _ => N - (intOf a).toNat)
        case atStart => exact HI.out
        case round =>
          clear HI
          obtain ⟨k, F2, rfl, hk, hw, ho, hg, hf2, hG2⟩ := hrel
          rw [HN.out] at hk
          have y6 : (N : Int) ≤ 60 := by omega
          by_cases hkN : k < N
          · have hkl : k < (R (64 * 1 + s)).length := by rw [HN.out]; exact hkN
            have kp := place_ok hw (R (64 * 1 + s))[k] (HR.out _ _ (List.getElem_mem _)) (HT.out _ (HR.out _ _ (List.getElem_mem _))) HB.out (mv_small HD.out HN60.out HR.out t f' (64 * 1 + s) k hkl)
            have ck := row_ptr (by rw [HN.out] at ho ⊢; exact ho) k hkl
            have HNX := Lib.hid (fun w' hp => EnI.next (W := W) (A := A) (M := M) (n := n) (now := now) (f := f') (seq := seq) (t := t) (idf := idf) (w' := w') hkl ho hg hf2 hG2 hp)
            have y7 : (0 : Int) ≤ (k : Int) ∧ (k : Int) < (N : Int) := by omega
            clear hw ho hg hf2 hG2
            go_wp2_with (go_at_call 18; (with_reducible refine kp.mono ?_); rintro e w3 ⟨rfl, hp⟩; have HP3 := Lib.hid hp; clear hp)
            go_roundw
            case rel => exact HNX.out _ HP3.out
            case measure => simp [intOf]; omega
          · obtain rfl : k = N := by omega
            have hDN := Lib.hid (EnI.done (by rw [HN.out]; exact hw) hf2 hG2)
            clear hw ho hg hf2 hG2
            go_wp2_with fail
            go_roundw
            case rel =>
              obtain ⟨F2, d1, d2, d3⟩ := hDN.out
              exact ⟨F2, _, d1, HD.out.mv t f' _, HF1.out.andThen HG1.out d2, HG1.out.trans d3 HF1.out.size, .inr (.inr (.inr ⟨rfl, (by have h1 := HRR.out; have h2 := HS.out; subst h1 h2; rfl)⟩))⟩
            case measure => simp [intOf]
    · have HRR := Lib.hid hR
      clear hR hw
      go_wp2_with fail
      go_end0
      exact ⟨rfl, F1, by have := HW.out; rw [HRR.out] at this; rw [HR0.out, HENT.out]; exact this, HF1.out, HG1.out⟩
set_option maxRecDepth 100000 in
set_option maxHeartbeats 4000000 in
theorem enter_far {F : Nat → Prop} {W A M n now f seq : Nat} {T t : Nat → Nat} {idf : Nat → Int} {rows : Nat → List Nat} {w : World} (h : Wl F W A M n T t idf now f seq rows w) (f' : Nat) (S : Nat → Bool) (hS : Wd S rows) (hn : n ≤ 60) (ht : ∀ i, i < n → t i < 1099511627776) (hf : f < 1099511627776) (hf' : f' < 1099511627776) (hc : f / 16777216 ≠ f' / 16777216) :
    Calls Tryd.prog 23 #[.pointer (some ⟨W, 0, none⟩), .int .i64 (f' : Int)] w fun e w' => e = .returned (.tuple #[]) ∧ Placed F W A M n T t idf now f' seq (Whp.ent t f f' rows) w w' := by
  have b : (((f : Nat) : Int) / 16777216 != (f' : Int) / 16777216) = true := bne_t (by omega)
  have y1 : (f : Int) < 1099511627776 := by omega
  have y2 : (f' : Int) < 1099511627776 := by omega
  have HENT : Hid (Whp.ent t f f' rows = Whp.mv1 t f' (Whp.mv1 t f' (Whp.mv1 t f' (Whp.mv1 t f' rows 256) (64 * 3 + f' / 262144 % 64)) (64 * 2 + f' / 4096 % 64)) (64 * 1 + f' / 64 % 64)) := Lib.hid (by unfold Whp.ent; rw [if_neg hc])
  have HN60 := Lib.hid hn
  have HT := Lib.hid ht
  have HB := Lib.hid hf'
  have h0 := h.setFrom f'
  have F0 : Fp F w (w.setCell ⟨W, 1, none⟩ (.int .i64 (f' : Int))) := Fp.ofFr ((Fr.refl W w).setCell 1 _) h.FW
  have hcells : w.cell? ⟨W, 1, none⟩ = some (.int .i64 (f : Int)) ∧ w.frozen? ⟨W, 1, none⟩ = false := by
    obtain ⟨vs, us, h1, _, _, _⟩ := h
    exact ⟨h1.c1, h1.fr 1 (by omega)⟩
  obtain ⟨c1, z1⟩ := hcells
  have HF0 := Lib.hid F0
  have H0 := Lib.hid h0
  have HS0 := Lib.hid hS
  obtain ⟨R0, hR0⟩ : ∃ R0, (Whp.mv1 t f' rows 256) = R0 := ⟨_, rfl⟩
  have HR0 := Lib.hid hR0
  rw [hR0] at HENT
  clear h h0 F0 hS hn ht hf hf' hc hR0
  go_enter Tryd.func23, Tryd.ntmps23
  obtain ⟨v, cv, zv, hE⟩ := far_out H0.out
  have HE := Lib.hid hE
  clear hE
  go_upto_region 3 with fail
  clear c1 z1 b
  generalize hV : w.setCell ⟨W, 1, none⟩ (.int .i64 (f' : Int)) = V at *
  have HI := Lib.hid (EnI.start HE.out)
  obtain ⟨N, hN⟩ : ∃ N, (rows 256).length = N := ⟨_, rfl⟩
  have hNn : N ≤ 60 := by
    obtain ⟨c, hc⟩ := HS0.out
    have := nodup_le n _ (hc 256).1 (H0.out.mem _)
    have := HN60.out
    omega
  have HN := Lib.hid hN
  have HR := Lib.hid H0.out.mem
  have HD := HS0
  have hcap : (v = .slice none 0 0 ∧ N = 0) ∨ ∃ g cap, v = .slice (some ⟨g, 0, none⟩) N cap := by
    obtain ⟨F3, e1, e2, e3, e4, e5⟩ := HE.out
    rw [hN] at e2
    rcases e2.2 with q | ⟨g, cap, cur, q, _⟩
    · exact .inl q
    · exact .inr ⟨g, cap, q⟩
  clear HE hN
  obtain ⟨F1, hF1⟩ : ∃ F1, F1 = F := ⟨_, rfl⟩
  rw [← hF1] at HI
  have HF1' := Lib.hid hF1
  clear hF1
  rcases hcap with ⟨rfl, rfl⟩ | ⟨g, cap, rfl⟩
  · have HO : Hid (EnO F W A M n T t idf now f' seq S R0 w (.int .i64 3) (V.setCell ⟨W, 265, none⟩ (.slice none 0 0))) := Lib.hid (by
      obtain ⟨k, F2, _, hk, hw, ho, hg, hf2, hG2⟩ := HI.out
      have : k = (rows 256).length := by have := HN.out; omega
      subst this
      rw [HF1'.out] at hf2 hG2
      exact ⟨F2, R0, by rw [← HR0.out]; exact hw, by rw [← HR0.out]; exact HS0.out.mv t f' 256, HF0.out.trans hf2, Gw.back hG2 HF0.out.size, .inl ⟨rfl, rfl⟩⟩)
    clear HI
    go_wp2_with fail
    refine wp_loop_rounds 1 ?_; rw [rounds_succ]
    go_wp2_with fail
    generalize V.setCell ⟨W, 265, none⟩ (.slice none 0 0) = V2 at *
    go_loopw [8] (fun a wr => EnO F W A M n T t idf now f' seq S R0 w a wr) (fun a _ => (intOf a).toNat)
    case atStart => exact HO.out
    case round =>
      clear HO
      obtain ⟨F1, R, hw, hd, hf1, hG1, hc⟩ := hrel
      obtain ⟨wo, rfl⟩ : ∃ wo : World, wo = wr := ⟨_, rfl⟩
      have HR := Lib.hid hw.mem
      have HD := Lib.hid hd
      have HF1 := Lib.hid hf1
      have HG1 := Lib.hid hG1
      have HW := Lib.hid hw
      clear hd hf1 hG1
      rcases hc with ⟨rfl, hR⟩ | ⟨rfl, hR⟩ | ⟨rfl, hR⟩ | ⟨rfl, hR⟩
      · have HRR := Lib.hid hR
        clear hR
        obtain ⟨s, hs⟩ : ∃ s, f' / 262144 % 64 = s := ⟨_, rfl⟩
        have HS := Lib.hid hs
        have kx := fun w2 => ix_3 f' w2 HB.out
        rw [hs] at kx
        have hsl : s < 64 := by omega
        have ke : Calls Tryd.prog 24 #[.pointer (some ⟨W, 0, none⟩), .int .i64 3, .int .i64 (s : Int)] _ _ := empty_ok hw 3 s (by omega) hsl
        clear hw hs
        go_wp2_with (go_at_call 30; (with_reducible refine (kx _).mono ?_); rintro e w1 ⟨rfl, rfl⟩)
        (with_reducible refine ke.mono ?_)
        rintro e w2 ⟨v, rfl, hE⟩
        have HI := Lib.hid (EnI.start hE)
        obtain ⟨N, hN⟩ : ∃ N, (R (64 * 3 + s)).length = N := ⟨_, rfl⟩
        have hNn : N ≤ 60 := by
          obtain ⟨c, hc⟩ := HD.out
          have := nodup_le n _ (hc (64 * 3 + s)).1 (HR.out _)
          have := HN60.out
          omega
        have HN := Lib.hid hN
        obtain ⟨F3, e1, e2, e3, e4, e5⟩ := hE
        rw [hN] at e2
        have hcap := e2.2
        clear e1 e2 e3 e4 e5 ke hN
        rcases hcap with ⟨rfl, rfl⟩ | ⟨g, cap, cur, rfl, _, _, _, _, _, _⟩
        · have hDN : Hid (Placed F1 W A M n T t idf now f' seq (Whp.mv1 t f' R (64 * 3 + s)) wo w2) := Lib.hid (by
            obtain ⟨k, F2, _, hk, hw, ho, hg, hf2, hG2⟩ := HI.out
            have : k = (R (64 * 3 + s)).length := by have := HN.out; omega
            subst this
            exact EnI.done hw hf2 hG2)
          clear HI
          go_wp2_with fail
          refine wp_loop_rounds 1 ?_; rw [rounds_succ]
          go_wp2_with fail
          go_roundw
          case rel =>
            obtain ⟨F2, d1, d2, d3⟩ := hDN.out
            exact ⟨F2, _, d1, HD.out.mv t f' _, HF1.out.andThen HG1.out d2, HG1.out.trans d3 HF1.out.size, .inr (.inl ⟨rfl, (by have h1 := HRR.out; have h2 := HS.out; subst h1 h2; rfl)⟩)⟩
          case measure => simp [intOf]
        · go_wp2_with fail
          go_loopw [52] (fun a wr => EnI F1 W A M n T t idf now f' seq R (64 * 3 + s) (.slice (some ⟨g, 0, none⟩) N cap) wo a wr) (fun a _ => N - (intOf a).toNat)
          case atStart => exact HI.out
          case round =>
            clear HI
            obtain ⟨k, F2, rfl, hk, hw, ho, hg, hf2, hG2⟩ := hrel
            rw [HN.out] at hk
            have y6 : (N : Int) ≤ 60 := by omega
            by_cases hkN : k < N
            · have hkl : k < (R (64 * 3 + s)).length := by rw [HN.out]; exact hkN
              have kp := place_ok hw (R (64 * 3 + s))[k] (HR.out _ _ (List.getElem_mem _)) (HT.out _ (HR.out _ _ (List.getElem_mem _))) HB.out (mv_small HD.out HN60.out HR.out t f' (64 * 3 + s) k hkl)
              have ck := row_ptr (by rw [HN.out] at ho ⊢; exact ho) k hkl
              have HNX := Lib.hid (fun w' hp => EnI.next (W := W) (A := A) (M := M) (n := n) (now := now) (f := f') (seq := seq) (t := t) (idf := idf) (w' := w') hkl ho hg hf2 hG2 hp)
              have y7 : (0 : Int) ≤ (k : Int) ∧ (k : Int) < (N : Int) := by omega
              clear hw ho hg hf2 hG2
              go_wp2_with (go_at_call 18; (with_reducible refine kp.mono ?_); rintro e w3 ⟨rfl, hp⟩; have HP3 := Lib.hid hp; clear hp)
              go_roundw
              case rel => exact HNX.out _ HP3.out
              case measure => simp [intOf]; omega
            · obtain rfl : k = N := by omega
              have hDN := Lib.hid (EnI.done (by rw [HN.out]; exact hw) hf2 hG2)
              clear hw ho hg hf2 hG2
              go_wp2_with fail
              go_roundw
              case rel =>
                obtain ⟨F2, d1, d2, d3⟩ := hDN.out
                exact ⟨F2, _, d1, HD.out.mv t f' _, HF1.out.andThen HG1.out d2, HG1.out.trans d3 HF1.out.size, .inr (.inl ⟨rfl, (by have h1 := HRR.out; have h2 := HS.out; subst h1 h2; rfl)⟩)⟩
              case measure => simp [intOf]
      · have HRR := Lib.hid hR
        clear hR
        obtain ⟨s, hs⟩ : ∃ s, f' / 4096 % 64 = s := ⟨_, rfl⟩
        have HS := Lib.hid hs
        have kx := fun w2 => ix_2 f' w2 HB.out
        rw [hs] at kx
        have hsl : s < 64 := by omega
        have ke : Calls Tryd.prog 24 #[.pointer (some ⟨W, 0, none⟩), .int .i64 2, .int .i64 (s : Int)] _ _ := empty_ok hw 2 s (by omega) hsl
        clear hw hs
        go_wp2_with (go_at_call 30; (with_reducible refine (kx _).mono ?_); rintro e w1 ⟨rfl, rfl⟩)
        (with_reducible refine ke.mono ?_)
        rintro e w2 ⟨v, rfl, hE⟩
        have HI := Lib.hid (EnI.start hE)
        obtain ⟨N, hN⟩ : ∃ N, (R (64 * 2 + s)).length = N := ⟨_, rfl⟩
        have hNn : N ≤ 60 := by
          obtain ⟨c, hc⟩ := HD.out
          have := nodup_le n _ (hc (64 * 2 + s)).1 (HR.out _)
          have := HN60.out
          omega
        have HN := Lib.hid hN
        obtain ⟨F3, e1, e2, e3, e4, e5⟩ := hE
        rw [hN] at e2
        have hcap := e2.2
        clear e1 e2 e3 e4 e5 ke hN
        rcases hcap with ⟨rfl, rfl⟩ | ⟨g, cap, cur, rfl, _, _, _, _, _, _⟩
        · have hDN : Hid (Placed F1 W A M n T t idf now f' seq (Whp.mv1 t f' R (64 * 2 + s)) wo w2) := Lib.hid (by
            obtain ⟨k, F2, _, hk, hw, ho, hg, hf2, hG2⟩ := HI.out
            have : k = (R (64 * 2 + s)).length := by have := HN.out; omega
            subst this
            exact EnI.done hw hf2 hG2)
          clear HI
          go_wp2_with fail
          refine wp_loop_rounds 1 ?_; rw [rounds_succ]
          go_wp2_with fail
          go_roundw
          case rel =>
            obtain ⟨F2, d1, d2, d3⟩ := hDN.out
            exact ⟨F2, _, d1, HD.out.mv t f' _, HF1.out.andThen HG1.out d2, HG1.out.trans d3 HF1.out.size, .inr (.inr (.inl ⟨rfl, (by have h1 := HRR.out; have h2 := HS.out; subst h1 h2; rfl)⟩))⟩
          case measure => simp [intOf]
        · go_wp2_with fail
          go_loopw [52] (fun a wr => EnI F1 W A M n T t idf now f' seq R (64 * 2 + s) (.slice (some ⟨g, 0, none⟩) N cap) wo a wr) (fun a _ => N - (intOf a).toNat)
          case atStart => exact HI.out
          case round =>
            clear HI
            obtain ⟨k, F2, rfl, hk, hw, ho, hg, hf2, hG2⟩ := hrel
            rw [HN.out] at hk
            have y6 : (N : Int) ≤ 60 := by omega
            by_cases hkN : k < N
            · have hkl : k < (R (64 * 2 + s)).length := by rw [HN.out]; exact hkN
              have kp := place_ok hw (R (64 * 2 + s))[k] (HR.out _ _ (List.getElem_mem _)) (HT.out _ (HR.out _ _ (List.getElem_mem _))) HB.out (mv_small HD.out HN60.out HR.out t f' (64 * 2 + s) k hkl)
              have ck := row_ptr (by rw [HN.out] at ho ⊢; exact ho) k hkl
              have HNX := Lib.hid (fun w' hp => EnI.next (W := W) (A := A) (M := M) (n := n) (now := now) (f := f') (seq := seq) (t := t) (idf := idf) (w' := w') hkl ho hg hf2 hG2 hp)
              have y7 : (0 : Int) ≤ (k : Int) ∧ (k : Int) < (N : Int) := by omega
              clear hw ho hg hf2 hG2
              go_wp2_with (go_at_call 18; (with_reducible refine kp.mono ?_); rintro e w3 ⟨rfl, hp⟩; have HP3 := Lib.hid hp; clear hp)
              go_roundw
              case rel => exact HNX.out _ HP3.out
              case measure => simp [intOf]; omega
            · obtain rfl : k = N := by omega
              have hDN := Lib.hid (EnI.done (by rw [HN.out]; exact hw) hf2 hG2)
              clear hw ho hg hf2 hG2
              go_wp2_with fail
              go_roundw
              case rel =>
                obtain ⟨F2, d1, d2, d3⟩ := hDN.out
                exact ⟨F2, _, d1, HD.out.mv t f' _, HF1.out.andThen HG1.out d2, HG1.out.trans d3 HF1.out.size, .inr (.inr (.inl ⟨rfl, (by have h1 := HRR.out; have h2 := HS.out; subst h1 h2; rfl)⟩))⟩
              case measure => simp [intOf]
      · have HRR := Lib.hid hR
        clear hR
        obtain ⟨s, hs⟩ : ∃ s, f' / 64 % 64 = s := ⟨_, rfl⟩
        have HS := Lib.hid hs
        have kx := fun w2 => ix_1 f' w2 HB.out
        rw [hs] at kx
        have hsl : s < 64 := by omega
        have ke : Calls Tryd.prog 24 #[.pointer (some ⟨W, 0, none⟩), .int .i64 1, .int .i64 (s : Int)] _ _ := empty_ok hw 1 s (by omega) hsl
        clear hw hs
        go_wp2_with (go_at_call 30; (with_reducible refine (kx _).mono ?_); rintro e w1 ⟨rfl, rfl⟩)
        (with_reducible refine ke.mono ?_)
        rintro e w2 ⟨v, rfl, hE⟩
        have HI := Lib.hid (EnI.start hE)
        obtain ⟨N, hN⟩ : ∃ N, (R (64 * 1 + s)).length = N := ⟨_, rfl⟩
        have hNn : N ≤ 60 := by
          obtain ⟨c, hc⟩ := HD.out
          have := nodup_le n _ (hc (64 * 1 + s)).1 (HR.out _)
          have := HN60.out
          omega
        have HN := Lib.hid hN
        obtain ⟨F3, e1, e2, e3, e4, e5⟩ := hE
        rw [hN] at e2
        have hcap := e2.2
        clear e1 e2 e3 e4 e5 ke hN
        rcases hcap with ⟨rfl, rfl⟩ | ⟨g, cap, cur, rfl, _, _, _, _, _, _⟩
        · have hDN : Hid (Placed F1 W A M n T t idf now f' seq (Whp.mv1 t f' R (64 * 1 + s)) wo w2) := Lib.hid (by
            obtain ⟨k, F2, _, hk, hw, ho, hg, hf2, hG2⟩ := HI.out
            have : k = (R (64 * 1 + s)).length := by have := HN.out; omega
            subst this
            exact EnI.done hw hf2 hG2)
          clear HI
          go_wp2_with fail
          refine wp_loop_rounds 1 ?_; rw [rounds_succ]
          go_wp2_with fail
          go_roundw
          case rel =>
            obtain ⟨F2, d1, d2, d3⟩ := hDN.out
            exact ⟨F2, _, d1, HD.out.mv t f' _, HF1.out.andThen HG1.out d2, HG1.out.trans d3 HF1.out.size, .inr (.inr (.inr ⟨rfl, (by have h1 := HRR.out; have h2 := HS.out; subst h1 h2; rfl)⟩))⟩
          case measure => simp [intOf]
        · go_wp2_with fail
          go_loopw [52] (fun a wr => EnI F1 W A M n T t idf now f' seq R (64 * 1 + s) (.slice (some ⟨g, 0, none⟩) N cap) wo a wr) (fun a _ => N - (intOf a).toNat)
          case atStart => exact HI.out
          case round =>
            clear HI
            obtain ⟨k, F2, rfl, hk, hw, ho, hg, hf2, hG2⟩ := hrel
            rw [HN.out] at hk
            have y6 : (N : Int) ≤ 60 := by omega
            by_cases hkN : k < N
            · have hkl : k < (R (64 * 1 + s)).length := by rw [HN.out]; exact hkN
              have kp := place_ok hw (R (64 * 1 + s))[k] (HR.out _ _ (List.getElem_mem _)) (HT.out _ (HR.out _ _ (List.getElem_mem _))) HB.out (mv_small HD.out HN60.out HR.out t f' (64 * 1 + s) k hkl)
              have ck := row_ptr (by rw [HN.out] at ho ⊢; exact ho) k hkl
              have HNX := Lib.hid (fun w' hp => EnI.next (W := W) (A := A) (M := M) (n := n) (now := now) (f := f') (seq := seq) (t := t) (idf := idf) (w' := w') hkl ho hg hf2 hG2 hp)
              have y7 : (0 : Int) ≤ (k : Int) ∧ (k : Int) < (N : Int) := by omega
              clear hw ho hg hf2 hG2
              go_wp2_with (go_at_call 18; (with_reducible refine kp.mono ?_); rintro e w3 ⟨rfl, hp⟩; have HP3 := Lib.hid hp; clear hp)
              go_roundw
              case rel => exact HNX.out _ HP3.out
              case measure => simp [intOf]; omega
            · obtain rfl : k = N := by omega
              have hDN := Lib.hid (EnI.done (by rw [HN.out]; exact hw) hf2 hG2)
              clear hw ho hg hf2 hG2
              go_wp2_with fail
              go_roundw
              case rel =>
                obtain ⟨F2, d1, d2, d3⟩ := hDN.out
                exact ⟨F2, _, d1, HD.out.mv t f' _, HF1.out.andThen HG1.out d2, HG1.out.trans d3 HF1.out.size, .inr (.inr (.inr ⟨rfl, (by have h1 := HRR.out; have h2 := HS.out; subst h1 h2; rfl)⟩))⟩
              case measure => simp [intOf]
      · have HRR := Lib.hid hR
        clear hR hw
        go_wp2_with fail
        go_end0
        exact ⟨rfl, F1, by have := HW.out; rw [HRR.out] at this; rw [HENT.out]; exact this, HF1.out, HG1.out⟩
  · go_wp2_with fail
    go_loopw [33] (fun a wr => EnI F1 W A M n T t idf now f' seq rows 256 (.slice (some ⟨g, 0, none⟩) N cap) V a wr) (fun a _ => N - (intOf a).toNat)
    case atStart => exact HI.out
    case round =>
      clear HI
      obtain ⟨k, F2, rfl, hk, hw, ho, hg, hf2, hG2⟩ := hrel
      rw [HN.out] at hk
      have y6 : (N : Int) ≤ 60 := by omega
      by_cases hkN : k < N
      · have hkl : k < (rows 256).length := by rw [HN.out]; exact hkN
        have kp := place_ok hw (rows 256)[k] (HR.out _ _ (List.getElem_mem _)) (HT.out _ (HR.out _ _ (List.getElem_mem _))) HB.out (mv_small HD.out HN60.out HR.out t f' 256 k hkl)
        have ck := row_ptr (by rw [HN.out] at ho ⊢; exact ho) k hkl
        have HNX := Lib.hid (fun w' hp => EnI.next (W := W) (A := A) (M := M) (n := n) (now := now) (f := f') (seq := seq) (t := t) (idf := idf) (w' := w') hkl ho hg hf2 hG2 hp)
        have y7 : (0 : Int) ≤ (k : Int) ∧ (k : Int) < (N : Int) := by omega
        clear hw ho hg hf2 hG2
        go_wp2_with (go_at_call 18; (with_reducible refine kp.mono ?_); rintro e w3 ⟨rfl, hp⟩; have HP3 := Lib.hid hp; clear hp)
        go_roundw
        case rel => exact HNX.out _ HP3.out
        case measure => simp [intOf]; omega
      · obtain rfl : k = N := by omega
        have hDN := Lib.hid (EnI.done (by rw [HN.out]; exact hw) hf2 hG2)
        clear hw ho hg hf2 hG2
        have HO : Hid (EnO F W A M n T t idf now f' seq S R0 w (.int .i64 3) wr) := Lib.hid (by
          obtain ⟨F2, d1, d2, d3⟩ := hDN.out
          rw [HF1'.out] at d2 d3
          exact ⟨F2, R0, by rw [← HR0.out]; exact d1, by rw [← HR0.out]; exact HS0.out.mv t f' 256, HF0.out.trans d2, Gw.back d3 HF0.out.size, .inl ⟨rfl, rfl⟩⟩)
        clear hDN HR HD HN
        go_wp2_with fail
        obtain ⟨V2, rfl⟩ : ∃ V2 : World, V2 = wr := ⟨_, rfl⟩
        go_loopw [8] (fun a wr => EnO F W A M n T t idf now f' seq S R0 w a wr) (fun a _ => (intOf a).toNat)
        case atStart => exact HO.out
        case round =>
          clear HO
          obtain ⟨F1, R, hw, hd, hf1, hG1, hc⟩ := hrel
          obtain ⟨wo, rfl⟩ : ∃ wo : World, wo = wr := ⟨_, rfl⟩
          have HR := Lib.hid hw.mem
          have HD := Lib.hid hd
          have HF1 := Lib.hid hf1
          have HG1 := Lib.hid hG1
          have HW := Lib.hid hw
          clear hd hf1 hG1
          rcases hc with ⟨rfl, hR⟩ | ⟨rfl, hR⟩ | ⟨rfl, hR⟩ | ⟨rfl, hR⟩
          · have HRR := Lib.hid hR
            clear hR
            obtain ⟨s, hs⟩ : ∃ s, f' / 262144 % 64 = s := ⟨_, rfl⟩
            have HS := Lib.hid hs
            have kx := fun w2 => ix_3 f' w2 HB.out
            rw [hs] at kx
            have hsl : s < 64 := by omega
            have ke : Calls Tryd.prog 24 #[.pointer (some ⟨W, 0, none⟩), .int .i64 3, .int .i64 (s : Int)] _ _ := empty_ok hw 3 s (by omega) hsl
            clear hw hs
            go_wp2_with (go_at_call 30; (with_reducible refine (kx _).mono ?_); rintro e w1 ⟨rfl, rfl⟩)
            (with_reducible refine ke.mono ?_)
            rintro e w2 ⟨v, rfl, hE⟩
            have HI := Lib.hid (EnI.start hE)
            obtain ⟨N, hN⟩ : ∃ N, (R (64 * 3 + s)).length = N := ⟨_, rfl⟩
            have hNn : N ≤ 60 := by
              obtain ⟨c, hc⟩ := HD.out
              have := nodup_le n _ (hc (64 * 3 + s)).1 (HR.out _)
              have := HN60.out
              omega
            have HN := Lib.hid hN
            obtain ⟨F3, e1, e2, e3, e4, e5⟩ := hE
            rw [hN] at e2
            have hcap := e2.2
            clear e1 e2 e3 e4 e5 ke hN
            rcases hcap with ⟨rfl, rfl⟩ | ⟨g, cap, cur, rfl, _, _, _, _, _, _⟩
            · have hDN : Hid (Placed F1 W A M n T t idf now f' seq (Whp.mv1 t f' R (64 * 3 + s)) wo w2) := Lib.hid (by
                obtain ⟨k, F2, _, hk, hw, ho, hg, hf2, hG2⟩ := HI.out
                have : k = (R (64 * 3 + s)).length := by have := HN.out; omega
                subst this
                exact EnI.done hw hf2 hG2)
              clear HI
              go_wp2_with fail
              refine wp_loop_rounds 1 ?_; rw [rounds_succ]
              go_wp2_with fail
              go_roundw
              case rel =>
                obtain ⟨F2, d1, d2, d3⟩ := hDN.out
                exact ⟨F2, _, d1, HD.out.mv t f' _, HF1.out.andThen HG1.out d2, HG1.out.trans d3 HF1.out.size, .inr (.inl ⟨rfl, (by have h1 := HRR.out; have h2 := HS.out; subst h1 h2; rfl)⟩)⟩
              case measure => simp [intOf]
            · go_wp2_with fail
              go_loopw [52] (fun a wr => EnI F1 W A M n T t idf now f' seq R (64 * 3 + s) (.slice (some ⟨g, 0, none⟩) N cap) wo a wr) (fun a _ => N - (intOf a).toNat)
              case atStart => exact HI.out
              case round =>
                clear HI
                obtain ⟨k, F2, rfl, hk, hw, ho, hg, hf2, hG2⟩ := hrel
                rw [HN.out] at hk
                have y6 : (N : Int) ≤ 60 := by omega
                by_cases hkN : k < N
                · have hkl : k < (R (64 * 3 + s)).length := by rw [HN.out]; exact hkN
                  have kp := place_ok hw (R (64 * 3 + s))[k] (HR.out _ _ (List.getElem_mem _)) (HT.out _ (HR.out _ _ (List.getElem_mem _))) HB.out (mv_small HD.out HN60.out HR.out t f' (64 * 3 + s) k hkl)
                  have ck := row_ptr (by rw [HN.out] at ho ⊢; exact ho) k hkl
                  have HNX := Lib.hid (fun w' hp => EnI.next (W := W) (A := A) (M := M) (n := n) (now := now) (f := f') (seq := seq) (t := t) (idf := idf) (w' := w') hkl ho hg hf2 hG2 hp)
                  have y7 : (0 : Int) ≤ (k : Int) ∧ (k : Int) < (N : Int) := by omega
                  clear hw ho hg hf2 hG2
                  go_wp2_with (go_at_call 18; (with_reducible refine kp.mono ?_); rintro e w3 ⟨rfl, hp⟩; have HP3 := Lib.hid hp; clear hp)
                  go_roundw
                  case rel => exact HNX.out _ HP3.out
                  case measure => simp [intOf]; omega
                · obtain rfl : k = N := by omega
                  have hDN := Lib.hid (EnI.done (by rw [HN.out]; exact hw) hf2 hG2)
                  clear hw ho hg hf2 hG2
                  go_wp2_with fail
                  go_roundw
                  case rel =>
                    obtain ⟨F2, d1, d2, d3⟩ := hDN.out
                    exact ⟨F2, _, d1, HD.out.mv t f' _, HF1.out.andThen HG1.out d2, HG1.out.trans d3 HF1.out.size, .inr (.inl ⟨rfl, (by have h1 := HRR.out; have h2 := HS.out; subst h1 h2; rfl)⟩)⟩
                  case measure => simp [intOf]
          · have HRR := Lib.hid hR
            clear hR
            obtain ⟨s, hs⟩ : ∃ s, f' / 4096 % 64 = s := ⟨_, rfl⟩
            have HS := Lib.hid hs
            have kx := fun w2 => ix_2 f' w2 HB.out
            rw [hs] at kx
            have hsl : s < 64 := by omega
            have ke : Calls Tryd.prog 24 #[.pointer (some ⟨W, 0, none⟩), .int .i64 2, .int .i64 (s : Int)] _ _ := empty_ok hw 2 s (by omega) hsl
            clear hw hs
            go_wp2_with (go_at_call 30; (with_reducible refine (kx _).mono ?_); rintro e w1 ⟨rfl, rfl⟩)
            (with_reducible refine ke.mono ?_)
            rintro e w2 ⟨v, rfl, hE⟩
            have HI := Lib.hid (EnI.start hE)
            obtain ⟨N, hN⟩ : ∃ N, (R (64 * 2 + s)).length = N := ⟨_, rfl⟩
            have hNn : N ≤ 60 := by
              obtain ⟨c, hc⟩ := HD.out
              have := nodup_le n _ (hc (64 * 2 + s)).1 (HR.out _)
              have := HN60.out
              omega
            have HN := Lib.hid hN
            obtain ⟨F3, e1, e2, e3, e4, e5⟩ := hE
            rw [hN] at e2
            have hcap := e2.2
            clear e1 e2 e3 e4 e5 ke hN
            rcases hcap with ⟨rfl, rfl⟩ | ⟨g, cap, cur, rfl, _, _, _, _, _, _⟩
            · have hDN : Hid (Placed F1 W A M n T t idf now f' seq (Whp.mv1 t f' R (64 * 2 + s)) wo w2) := Lib.hid (by
                obtain ⟨k, F2, _, hk, hw, ho, hg, hf2, hG2⟩ := HI.out
                have : k = (R (64 * 2 + s)).length := by have := HN.out; omega
                subst this
                exact EnI.done hw hf2 hG2)
              clear HI
              go_wp2_with fail
              refine wp_loop_rounds 1 ?_; rw [rounds_succ]
              go_wp2_with fail
              go_roundw
              case rel =>
                obtain ⟨F2, d1, d2, d3⟩ := hDN.out
                exact ⟨F2, _, d1, HD.out.mv t f' _, HF1.out.andThen HG1.out d2, HG1.out.trans d3 HF1.out.size, .inr (.inr (.inl ⟨rfl, (by have h1 := HRR.out; have h2 := HS.out; subst h1 h2; rfl)⟩))⟩
              case measure => simp [intOf]
            · go_wp2_with fail
              go_loopw [52] (fun a wr => EnI F1 W A M n T t idf now f' seq R (64 * 2 + s) (.slice (some ⟨g, 0, none⟩) N cap) wo a wr) (fun a _ => N - (intOf a).toNat)
              case atStart => exact HI.out
              case round =>
                clear HI
                obtain ⟨k, F2, rfl, hk, hw, ho, hg, hf2, hG2⟩ := hrel
                rw [HN.out] at hk
                have y6 : (N : Int) ≤ 60 := by omega
                by_cases hkN : k < N
                · have hkl : k < (R (64 * 2 + s)).length := by rw [HN.out]; exact hkN
                  have kp := place_ok hw (R (64 * 2 + s))[k] (HR.out _ _ (List.getElem_mem _)) (HT.out _ (HR.out _ _ (List.getElem_mem _))) HB.out (mv_small HD.out HN60.out HR.out t f' (64 * 2 + s) k hkl)
                  have ck := row_ptr (by rw [HN.out] at ho ⊢; exact ho) k hkl
                  have HNX := Lib.hid (fun w' hp => EnI.next (W := W) (A := A) (M := M) (n := n) (now := now) (f := f') (seq := seq) (t := t) (idf := idf) (w' := w') hkl ho hg hf2 hG2 hp)
                  have y7 : (0 : Int) ≤ (k : Int) ∧ (k : Int) < (N : Int) := by omega
                  clear hw ho hg hf2 hG2
                  go_wp2_with (go_at_call 18; (with_reducible refine kp.mono ?_); rintro e w3 ⟨rfl, hp⟩; have HP3 := Lib.hid hp; clear hp)
                  go_roundw
                  case rel => exact HNX.out _ HP3.out
                  case measure => simp [intOf]; omega
                · obtain rfl : k = N := by omega
                  have hDN := Lib.hid (EnI.done (by rw [HN.out]; exact hw) hf2 hG2)
                  clear hw ho hg hf2 hG2
                  go_wp2_with fail
                  go_roundw
                  case rel =>
                    obtain ⟨F2, d1, d2, d3⟩ := hDN.out
                    exact ⟨F2, _, d1, HD.out.mv t f' _, HF1.out.andThen HG1.out d2, HG1.out.trans d3 HF1.out.size, .inr (.inr (.inl ⟨rfl, (by have h1 := HRR.out; have h2 := HS.out; subst h1 h2; rfl)⟩))⟩
                  case measure => simp [intOf]
          · have HRR := Lib.hid hR
            clear hR
            obtain ⟨s, hs⟩ : ∃ s, f' / 64 % 64 = s := ⟨_, rfl⟩
            have HS := Lib.hid hs
            have kx := fun w2 => ix_1 f' w2 HB.out
            rw [hs] at kx
            have hsl : s < 64 := by omega
            have ke : Calls Tryd.prog 24 #[.pointer (some ⟨W, 0, none⟩), .int .i64 1, .int .i64 (s : Int)] _ _ := empty_ok hw 1 s (by omega) hsl
            clear hw hs
            go_wp2_with (go_at_call 30; (with_reducible refine (kx _).mono ?_); rintro e w1 ⟨rfl, rfl⟩)
            (with_reducible refine ke.mono ?_)
            rintro e w2 ⟨v, rfl, hE⟩
            have HI := Lib.hid (EnI.start hE)
            obtain ⟨N, hN⟩ : ∃ N, (R (64 * 1 + s)).length = N := ⟨_, rfl⟩
            have hNn : N ≤ 60 := by
              obtain ⟨c, hc⟩ := HD.out
              have := nodup_le n _ (hc (64 * 1 + s)).1 (HR.out _)
              have := HN60.out
              omega
            have HN := Lib.hid hN
            obtain ⟨F3, e1, e2, e3, e4, e5⟩ := hE
            rw [hN] at e2
            have hcap := e2.2
            clear e1 e2 e3 e4 e5 ke hN
            rcases hcap with ⟨rfl, rfl⟩ | ⟨g, cap, cur, rfl, _, _, _, _, _, _⟩
            · have hDN : Hid (Placed F1 W A M n T t idf now f' seq (Whp.mv1 t f' R (64 * 1 + s)) wo w2) := Lib.hid (by
                obtain ⟨k, F2, _, hk, hw, ho, hg, hf2, hG2⟩ := HI.out
                have : k = (R (64 * 1 + s)).length := by have := HN.out; omega
                subst this
                exact EnI.done hw hf2 hG2)
              clear HI
              go_wp2_with fail
              refine wp_loop_rounds 1 ?_; rw [rounds_succ]
              go_wp2_with fail
              go_roundw
              case rel =>
                obtain ⟨F2, d1, d2, d3⟩ := hDN.out
                exact ⟨F2, _, d1, HD.out.mv t f' _, HF1.out.andThen HG1.out d2, HG1.out.trans d3 HF1.out.size, .inr (.inr (.inr ⟨rfl, (by have h1 := HRR.out; have h2 := HS.out; subst h1 h2; rfl)⟩))⟩
              case measure => simp [intOf]
            · go_wp2_with fail
              go_loopw [52] (fun a wr => EnI F1 W A M n T t idf now f' seq R (64 * 1 + s) (.slice (some ⟨g, 0, none⟩) N cap) wo a wr) (fun a _ => N - (intOf a).toNat)
              case atStart => exact HI.out
              case round =>
                clear HI
                obtain ⟨k, F2, rfl, hk, hw, ho, hg, hf2, hG2⟩ := hrel
                rw [HN.out] at hk
                have y6 : (N : Int) ≤ 60 := by omega
                by_cases hkN : k < N
                · have hkl : k < (R (64 * 1 + s)).length := by rw [HN.out]; exact hkN
                  have kp := place_ok hw (R (64 * 1 + s))[k] (HR.out _ _ (List.getElem_mem _)) (HT.out _ (HR.out _ _ (List.getElem_mem _))) HB.out (mv_small HD.out HN60.out HR.out t f' (64 * 1 + s) k hkl)
                  have ck := row_ptr (by rw [HN.out] at ho ⊢; exact ho) k hkl
                  have HNX := Lib.hid (fun w' hp => EnI.next (W := W) (A := A) (M := M) (n := n) (now := now) (f := f') (seq := seq) (t := t) (idf := idf) (w' := w') hkl ho hg hf2 hG2 hp)
                  have y7 : (0 : Int) ≤ (k : Int) ∧ (k : Int) < (N : Int) := by omega
                  clear hw ho hg hf2 hG2
                  go_wp2_with (go_at_call 18; (with_reducible refine kp.mono ?_); rintro e w3 ⟨rfl, hp⟩; have HP3 := Lib.hid hp; clear hp)
                  go_roundw
                  case rel => exact HNX.out _ HP3.out
                  case measure => simp [intOf]; omega
                · obtain rfl : k = N := by omega
                  have hDN := Lib.hid (EnI.done (by rw [HN.out]; exact hw) hf2 hG2)
                  clear hw ho hg hf2 hG2
                  go_wp2_with fail
                  go_roundw
                  case rel =>
                    obtain ⟨F2, d1, d2, d3⟩ := hDN.out
                    exact ⟨F2, _, d1, HD.out.mv t f' _, HF1.out.andThen HG1.out d2, HG1.out.trans d3 HF1.out.size, .inr (.inr (.inr ⟨rfl, (by have h1 := HRR.out; have h2 := HS.out; subst h1 h2; rfl)⟩))⟩
                  case measure => simp [intOf]
          · have HRR := Lib.hid hR
            clear hR hw
            go_wp2_with fail
            go_end0
            exact ⟨rfl, F1, by have := HW.out; rw [HRR.out] at this; rw [HENT.out]; exact this, HF1.out, HG1.out⟩
theorem enter_ok {F : Nat → Prop} {W A M n now f seq : Nat} {T t : Nat → Nat} {idf : Nat → Int} {rows : Nat → List Nat} {w : World} (h : Wl F W A M n T t idf now f seq rows w) (f' : Nat) (S : Nat → Bool) (hS : Wd S rows) (hn : n ≤ 60) (ht : ∀ i, i < n → t i < 1099511627776) (hf : f < 1099511627776) (hf' : f' < 1099511627776) :
    Calls Tryd.prog 23 #[.pointer (some ⟨W, 0, none⟩), .int .i64 (f' : Int)] w fun e w' => e = .returned (.tuple #[]) ∧ Placed F W A M n T t idf now f' seq (Whp.ent t f f' rows) w w' := by
  by_cases hc : f / 16777216 = f' / 16777216
  · exact enter_near h f' S hS hn ht hf hf' hc
  · exact enter_far h f' S hS hn ht hf hf' hc
end Go.Proofs.YtnmgcjkffeeapaaDoor
