/- The contract of the document's Parse; the walk of the law ZoneTexts. -/
import Derived.Test.YtpenjmflkhhdgaaZonM
namespace Go.Proofs.Ytpenjmflkhhdgaa
open Go.RowKit
set_option linter.unusedVariables false
theorem txt_inj (a b : Int) (ha : Zn.zOk a) (hb : Zn.zOk b) (h : txt a = txt b) : a = b := by
  obtain ⟨f1, f2, f4, f5, ff⟩ := cfac a ha
  obtain ⟨g1, g2, g4, g5, gg⟩ := cfac b hb
  have h0 : Zn.c0 a = Zn.c0 b → (a < 0 ↔ b < 0) := by unfold Zn.c0; split <;> split <;> omega
  have k0 : 0 ≤ Zn.c0 a ∧ Zn.c0 a < 256 ∧ 0 ≤ Zn.c0 b ∧ Zn.c0 b < 256 := by unfold Zn.c0; split <;> split <;> omega
  have key : ∀ x y : Int, 0 ≤ x → x < 256 → 0 ≤ y → y < 256 → UInt8.ofNat x.toNat = UInt8.ofNat y.toNat → x = y := by
    intro x y hx hx' hy hy' e
    have e2 := congrArg UInt8.toNat e
    simp at e2
    omega
  have hl := congrArg (fun s : ByteArray => s.data.toList) h
  simp [txt, strOfNums] at hl
  obtain ⟨e0, e1, e2, e4, e5⟩ := hl
  have r0 := h0 (key _ _ (by omega) (by omega) (by omega) (by omega) e0)
  have r1 := key _ _ (by omega) (by omega) (by omega) (by omega) e1
  have r2 := key _ _ (by omega) (by omega) (by omega) (by omega) e2
  have r4 := key _ _ (by omega) (by omega) (by omega) (by omega) e4
  have r5 := key _ _ (by omega) (by omega) (by omega) (by omega) e5
  rw [r1, r2, r4, r5] at ff
  have hf : Zn.far a = Zn.far b := ff.symm.trans gg
  unfold Zn.far at hf
  split at hf <;> split at hf <;> omega
theorem bs_t {a b : ByteArray} (h : a = b) : (a.toList == b.toList) = true := by rw [h]; simp
theorem bs_f {a b : ByteArray} (h : a ≠ b) : (a.toList == b.toList) = false := by
  rw [ByteArray.toList_eq, ByteArray.toList_eq, beq_eq_false_iff_ne]
  intro e
  apply h
  obtain ⟨⟨x⟩⟩ := a
  obtain ⟨⟨y⟩⟩ := b
  simp at e
  rw [e]
theorem rparse_miss (s : ByteArray) (h : ∀ z, Zn.zOk z → s ≠ txt z) (w : World) :
    Calls Try.prog 17 #[.string s] w fun e w' => e = .returned (.tuple #[.int .i64 0, .int .i64 10]) ∧ Q w w' := by
  go_enter Try.func17, Try.ntmps17
  go_wp2_with fail
  go_loopw [4] (fun t wr => ∃ z : Int, -840 ≤ z ∧ z ≤ 841 ∧ t = .int .i64 z ∧ Q w wr) (fun t _ => (841 - intOf t).toNat)
  case atStart => exact ⟨-840, by omega, by omega, rfl, Q.refl _⟩
  case round =>
    obtain ⟨z, h1, h2, rfl, hq⟩ := hrel
    by_cases hlt : z ≤ 840
    · have hz : Zn.zOk z := ⟨h1, hlt⟩
      have hb : ((txt z).toList == s.toList) = false := bs_f (Ne.symm (h z hz))
      go_wp2_with (go_at_call 15; refine (rtext_ok _ hz _).mono ?_; rintro e w1 ⟨rfl, hq1⟩)
      go_roundw
      case rel => exact ⟨z + 1, by omega, by omega, rfl, hq.trans hq1⟩
      case measure => simp [intOf]; omega
    · obtain rfl : z = 841 := by omega
      go_wp2_with fail
      go_ret2
      exact ⟨rfl, hq⟩
theorem rparse_hit (z0 : Int) (h0 : Zn.zOk z0) (w : World) :
    Calls Try.prog 17 #[.string (txt z0)] w fun e w' => e = .returned (.tuple #[.int .i64 z0, .int .i64 0]) ∧ Q w w' := by
  obtain ⟨s, hs⟩ : ∃ s, txt z0 = s := ⟨_, rfl⟩
  have h0' := h0
  unfold Zn.zOk at h0'
  rw [hs]
  go_enter Try.func17, Try.ntmps17
  go_wp2_with fail
  go_loopw [4] (fun t wr => ∃ z : Int, -840 ≤ z ∧ z ≤ z0 ∧ t = .int .i64 z ∧ Q w wr) (fun t _ => (841 - intOf t).toNat)
  case atStart => exact ⟨-840, by omega, by omega, rfl, Q.refl _⟩
  case round =>
    obtain ⟨z, h1, h2, rfl, hq⟩ := hrel
    have hz : Zn.zOk z := ⟨h1, by omega⟩
    by_cases hlt : z = z0
    · subst hlt
      have hb : ((txt z).toList == s.toList) = true := bs_t hs
      clear hs
      go_wp2_with (go_at_call 15; refine (rtext_ok _ hz _).mono ?_; rintro e w1 ⟨rfl, hq1⟩)
      go_ret2
      exact ⟨rfl, hq.trans hq1⟩
    · have hb : ((txt z).toList == s.toList) = false := bs_f (fun e => hlt (txt_inj z z0 hz h0 (e.trans hs.symm)))
      clear hs
      go_wp2_with (go_at_call 15; refine (rtext_ok _ hz _).mono ?_; rintro e w1 ⟨rfl, hq1⟩)
      go_roundw
      case rel => exact ⟨z + 1, by omega, by omega, rfl, hq.trans hq1⟩
      case measure => simp [intOf]; omega
theorem text_any (z : Int) (w : World) : ∃ (t : ByteArray) (e : Int), (Zn.zOk z ∧ t = txt z ∧ e = 0 ∨ ¬ Zn.zOk z ∧ t = ⟨#[]⟩ ∧ e = 2) ∧ (∀ w, Calls Try.prog 14 #[.int .i64 z] w fun r w' => r = .returned (.tuple #[.string t, .int .i64 e]) ∧ Q w w') ∧ (∀ w, Calls Try.prog 15 #[.int .i64 z] w fun r w' => r = .returned (.tuple #[.string t, .int .i64 e]) ∧ Q w w') ∧ (∀ w, Calls Try.prog 18 #[.int .i64 z] w fun r w' => r = .returned (.int .i64 e) ∧ w = w') ∧ (∀ w, Calls Try.prog 19 #[.int .i64 z] w fun r w' => r = .returned (.int .i64 e) ∧ w = w') := by
  by_cases h : Zn.zOk z
  · exact ⟨txt z, 0, Or.inl ⟨h, rfl, rfl⟩, text_ok z h, rtext_ok z h, check_ok z h, rcheck_ok z h⟩
  · exact ⟨⟨#[]⟩, 2, Or.inr ⟨h, rfl, rfl⟩, text_bad z h, rtext_bad z h, check_bad z h, rcheck_bad z h⟩
theorem parse_any (s : ByteArray) : ∃ z e : Int, (Zn.zOk z ∧ s = txt z ∧ e = 0 ∨ (∀ k, Zn.zOk k → s ≠ txt k) ∧ z = 0 ∧ e = 10) ∧ (∀ w, Calls Try.prog 16 #[.string s] w fun r w' => r = .returned (.tuple #[.int .i64 z, .int .i64 e]) ∧ Q w w') ∧ (∀ w, Calls Try.prog 17 #[.string s] w fun r w' => r = .returned (.tuple #[.int .i64 z, .int .i64 e]) ∧ Q w w') := by
  by_cases h : ∃ z, Zn.zOk z ∧ s = txt z
  · obtain ⟨z, hz, rfl⟩ := h
    exact ⟨z, 0, Or.inl ⟨hz, rfl, rfl⟩, parse_hit z hz, rparse_hit z hz⟩
  · have h' : ∀ k, Zn.zOk k → s ≠ txt k := fun k hk e => h ⟨k, hk, e⟩
    exact ⟨0, 10, Or.inr ⟨h', rfl, rfl⟩, parse_miss s h', rparse_miss s h'⟩
theorem zoneTexts_walk (z : Int) (s : ByteArray) (wz : (Lit.int .i64 z).wf = true) (hlen : s.size < 9223372036854775808) (w : World) :
    Calls Try.prog 3 #[.int .i64 z, .string s] w fun e w' => e = .returned (.bool true) ∧ Q w w' := by
  obtain ⟨t, e, ht, k1, k2, k3, k4⟩ := text_any z w
  obtain ⟨x, f, hx, k5, k6⟩ := parse_any s
  clear ht hx
  by_cases hl : 1000 < (s.size : Int)
  · go_enter Try.func3, Try.ntmps3
    go_wp2_with (go_at_call 13; refine (works_any _).mono ?_; rintro e w9 ⟨rfl, hq9⟩)
    go_ret
    exact ⟨rfl, by repeat (first | exact Q.refl _ | assumption | refine Q.alloc ?_ _ | refine Q.drew ?_ | refine Q.trans ?_ (by assumption))⟩
  · go_enter Try.func3, Try.ntmps3
    go_wp2_with (first
      | (go_at_call 14; refine (k1 _).mono ?_; rintro e w1 ⟨rfl, hq1⟩)
      | (go_at_call 15; refine (k2 _).mono ?_; rintro e w2 ⟨rfl, hq2⟩)
      | (go_at_call 16; refine (k5 _).mono ?_; rintro e w3 ⟨rfl, hq3⟩)
      | (go_at_call 17; refine (k6 _).mono ?_; rintro e w4 ⟨rfl, hq4⟩)
      | (go_at_call 18; refine (k3 _).mono ?_; rintro e w5 ⟨rfl, rfl⟩)
      | (go_at_call 19; refine (k4 _).mono ?_; rintro e w6 ⟨rfl, rfl⟩)
      | (go_at_call 13; refine (works_any _).mono ?_; rintro e w9 ⟨rfl, hq9⟩))
    go_ret
    exact ⟨rfl, by repeat (first | exact Q.refl _ | assumption | refine Q.alloc ?_ _ | refine Q.drew ?_ | refine Q.trans ?_ (by assumption))⟩
end Go.Proofs.Ytpenjmflkhhdgaa
