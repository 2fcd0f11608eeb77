/- The contracts of the heap's up and down. -/
import Derived.Test.YtnmgcjkffeeapaaDoorHeB
import Derived.Test.YtnmgcjkffeeapaaDoorHeC
namespace Go.Proofs.YtnmgcjkffeeapaaDoor
open Go.RowKit
set_option linter.unusedVariables false
set_option linter.unusedSimpArgs false
/-- the entries are a heap again -/
def Heaped (F : Nat → Prop) (H M : Nat) (v : Value) (l : List En) (ps B : Int) (w w' : World) : Prop := ∃ l', HeAt F H M v l' ps B w' ∧ l'.Perm l ∧ Hep.Hp l' ∧ Fp F w w'
/-- what an entry has gone up to -/
def UpR (F : Nat → Prop) (H M : Nat) (v : Value) (l : List En) (ps B : Int) (w : World) (a : Value) (w' : World) : Prop := ∃ (i : Nat) (l' : List En), a = .int .i64 (i : Int) ∧ i < l'.length ∧ HeAt F H M v l' ps B w' ∧ Hep.HU l' i ∧ l'.Perm l ∧ Fp F w w'
theorem Hep.lt_trans {a b c : En} (h : Hep.lt a b) (k : Hep.lt b c) : Hep.lt a c := by unfold Hep.lt at *; omega
/-- the best of i and its first j children -/
def PkR (l : List En) (i j k : Nat) : Prop := k < l.length ∧ (k = i ∨ (0 < k ∧ (k - 1) / 2 = i ∧ Hep.lt (Hep.g l k) (Hep.g l i))) ∧ ∀ c, 2 * i + 1 ≤ c → c < 2 * i + 1 + j → c < l.length → ¬ Hep.lt (Hep.g l c) (Hep.g l k)
theorem PkR.start {l : List En} {i : Nat} (h : i < l.length) : PkR l i 0 i := ⟨h, .inl rfl, fun c h1 h2 => by omega⟩
theorem PkR.take {l : List En} {i j k : Nat} (h : PkR l i j k) (hj : j < 2) (hc : 2 * i + 1 + j < l.length) (hl : Hep.lt (Hep.g l (2 * i + 1 + j)) (Hep.g l k)) : PkR l i (j + 1) (2 * i + 1 + j) := by
  obtain ⟨h1, h2, h3⟩ := h
  refine ⟨hc, .inr ⟨by omega, by omega, ?_⟩, fun c k1 k2 k3 => ?_⟩
  · rcases h2 with rfl | ⟨_, _, q⟩
    · exact hl
    · exact Hep.lt_trans hl q
  · by_cases e : c = 2 * i + 1 + j
    · subst e; exact Hep.lt_irr _
    · exact Hep.nlt_of hl (h3 c k1 (by omega) k3)
theorem PkR.pass {l : List En} {i j k : Nat} (h : PkR l i j k) (hl : 2 * i + 1 + j < l.length → ¬ Hep.lt (Hep.g l (2 * i + 1 + j)) (Hep.g l k)) : PkR l i (j + 1) k := by
  obtain ⟨h1, h2, h3⟩ := h
  refine ⟨h1, h2, fun c k1 k2 k3 => ?_⟩
  by_cases e : c = 2 * i + 1 + j
  · subst e; exact hl k3
  · exact h3 c k1 (by omega) k3
theorem PkR.stop {l : List En} {i : Nat} (h : PkR l i 2 i) (hd : Hep.HD l i) : Hep.Hp l :=
  Hep.down_exit hd fun c c0 c1 c2 => h.2.2 c (by omega) (by omega) c1
theorem PkR.go {l : List En} {i k : Nat} (h : PkR l i 2 k) (hk : k ≠ i) (hd : Hep.HD l i) : i < k ∧ Hep.HD (Hep.swap l i k) k := by
  obtain ⟨h1, h2, h3⟩ := h
  rcases h2 with q | ⟨q1, q2, q3⟩
  · exact absurd q hk
  · exact ⟨by omega, Hep.down_step hd q1 h1 q2 q3 fun c c0 c1 c2 => h3 c (by omega) (by omega) c1⟩
set_option maxRecDepth 100000 in
set_option maxHeartbeats 4000000 in
theorem up_ok {F : Nat → Prop} {H M : Nat} {v : Value} {l : List En} {ps B : Int} {w : World} (h : HeAt F H M v l ps B w) (i : Nat) (hi : i < l.length) (hl : l.length ≤ 60) (hU : Hep.HU l i) :
    Calls Tryd.prog 21 #[.pointer (some ⟨H, 0, none⟩), .int .i64 (i : Int)] w fun e w' => e = .returned (.tuple #[]) ∧ Heaped F H M v l ps B w w' := by
  have HR : Hid (UpR F H M v l ps B w (.int .i64 (i : Int)) w) := Lib.hid ⟨i, l, rfl, hi, h, hU, List.Perm.refl _, Fp.refl _ _⟩
  have HL := Lib.hid hl
  clear h hi hl hU
  go_enter Tryd.func21, Tryd.ntmps21
  go_wp2_with fail
  go_loopw [1] (fun a wr => UpR F H M v l ps B w a wr) (fun a _ => (intOf a).toNat)
  case atStart => exact HR.out
  case round =>
    clear HR
    obtain ⟨i, l', rfl, hi, hh, hU, hp, hf⟩ := hrel
    have hlen : l'.length ≤ 60 := by rw [hp.length_eq]; exact HL.out
    have y0 : (i : Int) ≤ 60 := by omega
    have HP := Lib.hid hp
    have HF := Lib.hid hf
    have HU := Lib.hid hU
    have HH := Lib.hid hh
    by_cases h0 : i = 0
    · subst h0
      have HX := Lib.hid (Hep.up_exit hU (.inl rfl))
      clear hh hU hp hf
      go_wp2_with fail
      go_end0
      exact ⟨rfl, l', HH.out, HP.out, HX.out, HF.out⟩
    · have y1 : (0 : Int) < (i : Int) := by omega
      have y2 : (1 : Int) ≤ (i : Int) := by omega
      have e : ((i : Int) - 1) / 2 = (((i - 1) / 2 : Nat) : Int) := by omega
      have hpl : (i - 1) / 2 < l'.length := by omega
      by_cases hlt : Hep.lt (Hep.g l' i) (Hep.g l' ((i - 1) / 2))
      · have kf := first_t hh i ((i - 1) / 2) hi hpl hlen hlt
        have ks := fun w2 (q : Q wr w2) => swap_ok (hh.q q) i ((i - 1) / 2) hi hpl (by omega) hlen
        have hU2 := Hep.up_step hU (by omega) hi hlt
        have HI : Hid ((i - 1) / 2 < (Hep.swap l' i ((i - 1) / 2)).length) := Lib.hid (by rw [Hep.swap_len]; exact hpl)
        have HP2 := Lib.hid ((Hep.swap_perm hi hpl).trans hp)
        have HU2 := Lib.hid hU2
        have HE := Lib.hid e
        rw [← e] at kf ks
        clear hh hU hp hf hlt hU2 e
        generalize (i - 1) / 2 = p at *
        go_wp2_with (first
          | (go_at_call 31; (with_reducible refine kf.mono ?_); rintro e w2 ⟨rfl, hq⟩)
          | (go_at_call 32; (with_reducible refine (ks _ hq).mono ?_); rintro e w3 ⟨rfl, hs, hf3⟩; have HS3 := Lib.hid hs; have HF3 := Lib.hid hf3; clear hs hf3))
        go_roundw
        case rel => exact ⟨p, _, by rw [HE.out], HI.out, HS3.out, HU2.out, HP2.out, (HF.out.trans (Fp.ofQ hq)).trans HF3.out⟩
        case measure => simp [intOf]; omega
      · have kf := first_f hh i ((i - 1) / 2) hi hpl hlen hlt
        have HX := Lib.hid (Hep.up_exit hU (.inr hlt))
        rw [← e] at kf
        clear hh hU hp hf hlt e
        go_wp2_with (go_at_call 31; (with_reducible refine kf.mono ?_); rintro e w2 ⟨rfl, hq⟩)
        go_end0
        exact ⟨rfl, l', HH.out.q hq, HP.out, HX.out, HF.out.trans (Fp.ofQ hq)⟩
theorem ix0 (a b : Value) (w : World) : (Instr.index 105 (.agg #[a, b]) (.int .i64 0)).run Tryd.prog w = .ok a w := by kernel_rfl
theorem ix1 (a b : Value) (w : World) : (Instr.index 105 (.agg #[a, b]) (.int .i64 1)).run Tryd.prog w = .ok b w := by kernel_rfl
/-- what an entry has gone down to -/
def DnR (F : Nat → Prop) (H M : Nat) (v : Value) (l : List En) (ps B : Int) (w : World) (a : Value) (w' : World) : Prop := ∃ (i : Nat) (l' : List En), a = .int .i64 (i : Int) ∧ i < l'.length ∧ HeAt F H M v l' ps B w' ∧ Hep.HD l' i ∧ l'.Perm l ∧ Fp F w w'
def DnI (F : Nat → Prop) (H M : Nat) (v : Value) (l : List En) (ps B : Int) (i : Nat) (w : World) (a b : Value) (w' : World) : Prop := ∃ k : Nat, a = .int .i64 (k : Int) ∧ HeAt F H M v l ps B w' ∧ Fp F w w' ∧ ((b = .int .i64 0 ∧ PkR l i 0 k) ∨ (b = .int .i64 1 ∧ PkR l i 1 k) ∨ (b = .int .i64 2 ∧ PkR l i 2 k))
set_option maxRecDepth 100000 in
set_option maxHeartbeats 4000000 in
theorem down_ok {F : Nat → Prop} {H M : Nat} {v : Value} {l : List En} {ps B : Int} {w : World} (h : HeAt F H M v l ps B w) (i : Nat) (hi : i < l.length) (hl : l.length ≤ 60) (hD : Hep.HD l i) :
    Calls Tryd.prog 41 #[.pointer (some ⟨H, 0, none⟩), .int .i64 (i : Int)] w fun e w' => e = .returned (.tuple #[]) ∧ Heaped F H M v l ps B w w' := by
  have HR : Hid (DnR F H M v l ps B w (.int .i64 (i : Int)) w) := Lib.hid ⟨i, l, rfl, hi, h, hD, List.Perm.refl _, Fp.refl _ _⟩
  obtain ⟨g, cap, rfl⟩ := h.slice (by omega)
  obtain ⟨n, hn⟩ : ∃ n, l.length = n := ⟨_, rfl⟩
  rw [hn] at HR hl ⊢
  have HN := Lib.hid hn
  clear h hi hD hn
  go_enter Tryd.func41, Tryd.ntmps41
  go_wp2_with fail
  go_loopw [1] (fun a wr => DnR F H M (.slice (some ⟨g, 0, none⟩) n cap) l ps B w a wr) (fun a _ => 60 - (intOf a).toNat)
  case atStart => exact HR.out
  case round =>
    clear HR
    obtain ⟨i, l', rfl, hi, hh, hD, hp, hf⟩ := hrel
    have hln : l'.length = n := by rw [hp.length_eq]; exact HN.out
    have HLN := Lib.hid hln
    rw [hln] at hi
    clear hln
    obtain ⟨wo, rfl⟩ : ∃ wo : World, wo = wr := ⟨_, rfl⟩
    have y0 : (i : Int) ≤ 60 := by omega
    have HP := Lib.hid hp
    have HF := Lib.hid hf
    have HD := Lib.hid hD
    have HR : Hid (DnI F H M (.slice (some ⟨g, 0, none⟩) n cap) l' ps B i wo (.int .i64 (i : Int)) (.int .i64 0) wo) := Lib.hid ⟨i, rfl, hh, Fp.refl _ _, .inl ⟨rfl, PkR.start (by rw [HLN.out]; exact hi)⟩⟩
    clear hh hD hp hf
    go_wp2_with fail
    go_loopw [4, 15] (fun a b wr => DnI F H M (.slice (some ⟨g, 0, none⟩) n cap) l' ps B i wo a b wr) (fun _ b _ => 2 - (intOf b).toNat)
    case atStart => exact HR.out
    case round =>
      clear HR
      obtain ⟨k, rfl, hh, hf, hc⟩ := hrel
      have c1 := hh.c1
      have HH := Lib.hid hh
      have HF2 := Lib.hid hf
      have y1 : (0 : Int) ≤ (i : Int) ∧ (i : Int) < (n : Int) := by omega
      have y2 : (n : Int) ≤ 60 := by omega
      have x0 := fun (a b : Value) (w2 : World) => ix0 a b w2
      have x1 := fun (a b : Value) (w2 : World) => ix1 a b w2
      rcases hc with ⟨rfl, hk⟩ | ⟨rfl, hk⟩ | ⟨rfl, hk⟩
      · have HK := Lib.hid hk
        have e : (((2 * i + 1 + 0 : Nat)) : Int) = 2 * (i : Int) + 1 := by omega
        by_cases hc : 2 * i + 1 + 0 < n
        · have z1 : decide (2 * (i : Int) + 1 < (n : Int)) = true := decide_eq_true (by omega)
          by_cases hlt : Hep.lt (Hep.g l' (2 * i + 1 + 0)) (Hep.g l' k)
          · have kf := first_t hh (2 * i + 1 + 0) k (by simp only [HLN.out]; exact hc) hk.1 (by rw [HLN.out]; exact hl) hlt
            have HK2 := Lib.hid (hk.take (by omega) (by simp only [HLN.out]; exact hc) hlt)
            have HE := Lib.hid e
            rw [e] at kf
            clear hk hh hf hlt e hc
            go_wp2_with (go_at_call 31; (with_reducible refine kf.mono ?_); rintro e w2 ⟨rfl, hq⟩; have c1 := (HH.out.q hq).c1)
            go_roundw
            case rel => exact ⟨2 * i + 1 + 0, by rw [HE.out], HH.out.q hq, HF2.out.trans (Fp.ofQ hq), .inr (.inl ⟨rfl, HK2.out⟩)⟩
            case measure => simp [intOf]
          · have kf := first_f hh (2 * i + 1 + 0) k (by simp only [HLN.out]; exact hc) hk.1 (by rw [HLN.out]; exact hl) hlt
            have HK2 := Lib.hid (hk.pass (fun _ => hlt))
            rw [e] at kf
            clear hk hh hf hlt e hc
            go_wp2_with (go_at_call 31; (with_reducible refine kf.mono ?_); rintro e w2 ⟨rfl, hq⟩; have c1 := (HH.out.q hq).c1)
            go_roundw
            case rel => exact ⟨k, rfl, HH.out.q hq, HF2.out.trans (Fp.ofQ hq), .inr (.inl ⟨rfl, HK2.out⟩)⟩
            case measure => simp [intOf]
        · have z1 : decide (2 * (i : Int) + 1 < (n : Int)) = false := decide_eq_false (by omega)
          have HK2 := Lib.hid (hk.pass (fun q => absurd q (by simp only [HLN.out]; exact hc)))
          clear hk hh hf e hc
          go_wp2_with fail
          go_roundw
          case rel => exact ⟨k, rfl, HH.out, HF2.out, .inr (.inl ⟨rfl, HK2.out⟩)⟩
          case measure => simp [intOf]
      · have HK := Lib.hid hk
        have e : (((2 * i + 1 + 1 : Nat)) : Int) = 2 * (i : Int) + 2 := by omega
        by_cases hc : 2 * i + 1 + 1 < n
        · have z1 : decide (2 * (i : Int) + 2 < (n : Int)) = true := decide_eq_true (by omega)
          by_cases hlt : Hep.lt (Hep.g l' (2 * i + 1 + 1)) (Hep.g l' k)
          · have kf := first_t hh (2 * i + 1 + 1) k (by simp only [HLN.out]; exact hc) hk.1 (by rw [HLN.out]; exact hl) hlt
            have HK2 := Lib.hid (hk.take (by omega) (by simp only [HLN.out]; exact hc) hlt)
            have HE := Lib.hid e
            rw [e] at kf
            clear hk hh hf hlt e hc
            go_wp2_with (go_at_call 31; (with_reducible refine kf.mono ?_); rintro e w2 ⟨rfl, hq⟩; have c1 := (HH.out.q hq).c1)
            go_roundw
            case rel => exact ⟨2 * i + 1 + 1, by rw [HE.out], HH.out.q hq, HF2.out.trans (Fp.ofQ hq), .inr (.inr ⟨rfl, HK2.out⟩)⟩
            case measure => simp [intOf]
          · have kf := first_f hh (2 * i + 1 + 1) k (by simp only [HLN.out]; exact hc) hk.1 (by rw [HLN.out]; exact hl) hlt
            have HK2 := Lib.hid (hk.pass (fun _ => hlt))
            rw [e] at kf
            clear hk hh hf hlt e hc
            go_wp2_with (go_at_call 31; (with_reducible refine kf.mono ?_); rintro e w2 ⟨rfl, hq⟩; have c1 := (HH.out.q hq).c1)
            go_roundw
            case rel => exact ⟨k, rfl, HH.out.q hq, HF2.out.trans (Fp.ofQ hq), .inr (.inr ⟨rfl, HK2.out⟩)⟩
            case measure => simp [intOf]
        · have z1 : decide (2 * (i : Int) + 2 < (n : Int)) = false := decide_eq_false (by omega)
          have HK2 := Lib.hid (hk.pass (fun q => absurd q (by simp only [HLN.out]; exact hc)))
          clear hk hh hf e hc
          go_wp2_with fail
          go_roundw
          case rel => exact ⟨k, rfl, HH.out, HF2.out, .inr (.inr ⟨rfl, HK2.out⟩)⟩
          case measure => simp [intOf]
      · by_cases hki : k = i
        · subst hki
          have HX := Lib.hid (hk.stop HD.out)
          clear hk hh hf
          go_wp2_with fail
          refine bodyPost_ret (v := .tuple #[]) (by simp [results, Tryd.results41, go_sem]) rfl ?_
          exact ⟨rfl, l', HH.out, HP.out, HX.out, HF.out.trans HF2.out⟩
        · have z1 : ((k : Int) == (i : Int)) = false := beq_f (by omega)
          have hkn : k < l'.length := hk.1
          have hil : i < l'.length := by rw [HLN.out]; exact hi
          obtain ⟨hik, hD2⟩ := hk.go hki HD.out
          have ks := swap_ok hh i k hil hkn (by omega) (by rw [HLN.out]; exact hl)
          have HD2 := Lib.hid hD2
          have HP2 := Lib.hid ((Hep.swap_perm hil hkn).trans HP.out)
          have HI : Hid (k < (Hep.swap l' i k).length) := Lib.hid (by rw [Hep.swap_len]; exact hkn)
          have hk60 : (k : Int) < 60 := by have := HLN.out; omega
          clear hk hh hf hki hD2 hkn hil
          go_wp2_with (go_at_call 32; (with_reducible refine ks.mono ?_); rintro e w3 ⟨rfl, hs, hf3⟩; have HS3 := Lib.hid hs; have HF3 := Lib.hid hf3; clear hs hf3)
          go_roundw
          case rel => exact ⟨k, _, rfl, HI.out, HS3.out, HD2.out, HP2.out, (HF.out.trans HF2.out).trans HF3.out⟩
          case measure => simp [intOf]; omega
end Go.Proofs.YtnmgcjkffeeapaaDoor
