/- The contract of slices.MinFunc at timers. -/
import Derived.Test.YtnmgcjkffeeapaaDoorSrB
import Derived.Test.YtnmgcjkffeeapaaDoorWhE
namespace Go.Proofs.YtnmgcjkffeeapaaDoor
open Go.RowKit
set_option linter.unusedVariables false
set_option linter.unusedSimpArgs false
/-- the first k timers have been looked at -/
def MnR (T t : Nat → Nat) (l : List Nat) (w : World) (a b : Value) (w' : World) : Prop := ∃ k m : Nat, b = .int .i64 (k : Int) ∧ 1 ≤ k ∧ k ≤ l.length ∧ a = .pointer (some ⟨T m, 0, none⟩) ∧ m ∈ l ∧ (∀ x ∈ l.take k, t m ≤ t x) ∧ Q w w'
def MnD (T t : Nat → Nat) (l : List Nat) (w : World) (e : Ending) (w' : World) : Prop := ∃ m : Nat, e = .returned (.pointer (some ⟨T m, 0, none⟩)) ∧ m ∈ l ∧ (∀ x ∈ l, t m ≤ t x) ∧ Q w w'
theorem Tm.q {T t : Nat → Nat} {idf : Nat → Int} {i : Nat} {w w' : World} (h : Tm T t idf i w) (hq : Q w w') : Tm T t idf i w' := h.fp (G := fun _ => False) (Fp.ofQ hq) id
set_option maxRecDepth 100000 in
set_option maxHeartbeats 2000000 in
theorem min_ok (T t : Nat → Nat) (idf : Nat → Int) (n : Nat) (l : List Nat) (g cap : Nat) (w : World) (hown : w.ownsRow 0 61 1 (.slice (some ⟨g, 0, none⟩) l.length cap) l.length (l.map fun i => Value.pointer (some ⟨T i, 0, none⟩)))
    (hl : ∀ i ∈ l, i < n) (h0 : 0 < l.length) (h60 : l.length ≤ 60) (htm : ∀ i, i < n → Tm T t idf i w) :
    Calls Tryd.prog 34 #[.slice (some ⟨g, 0, none⟩) l.length cap, .func (.func 26) #[] #[]] w fun e w' => MnD T t l w e w' := by
  have c0 := row_ptr hown 0 h0
  have HO := Lib.hid hown
  have HL := Lib.hid hl
  have HT := Lib.hid htm
  have HR : Hid (MnR T t l w (.pointer (some ⟨T l[0], 0, none⟩)) (.int .i64 1) w) := Lib.hid ⟨1, l[0], rfl, by omega, by omega, rfl, List.getElem_mem _, by
    intro x hx
    cases l with
    | nil => cases hx
    | cons y r => simp at hx; rw [hx]; simp, Q.refl _⟩
  obtain ⟨N, hN⟩ : ∃ N, l.length = N := ⟨_, rfl⟩
  have HN := Lib.hid hN
  have y1 : (0 : Int) < (N : Int) ∧ (N : Int) ≤ 60 := by omega
  have y2 : decide ((N : Int) < 1) = false := decide_eq_false (by omega)
  rw [hN]
  clear hown hl htm hN
  go_enter Tryd.func34, Tryd.ntmps34
  go_wp2_with fail
  go_loopw [5, 6] (fun a b wr => MnR T t l w a b wr) (fun _ b _ => N - (intOf b).toNat)
  case atStart => exact HR.out
  case round =>
    clear HR c0
    obtain ⟨k, m, rfl, hk1, hk2, rfl, hm, hle, hq⟩ := hrel
    rw [HN.out] at hk2
    have HM := Lib.hid hm
    have HLE := Lib.hid hle
    have HQ := Lib.hid hq
    by_cases hkN : k < N
    · have hkl : k < l.length := by rw [HN.out]; exact hkN
      have ck := row_ptr ((Fp.ofQ (F := fun _ => False) hq).owns HO.out (fun _ _ => id)) k hkl
      have kb := before_tm T t idf l[k] m wr ((HT.out _ (HL.out _ (List.getElem_mem _))).q hq) ((HT.out _ (HL.out _ hm)).q hq)
      have hts : l.take (k + 1) = l.take k ++ [l[k]] := List.take_succ_eq_append_getElem hkl
      have HTS := Lib.hid hts
      have hb := lt_bef t l[k] m
      have HMK : Hid (l[k] ∈ l) := Lib.hid (List.getElem_mem _)
      have y3 : (0 : Int) ≤ (k : Int) ∧ (k : Int) < (N : Int) := by omega
      clear hm hle hq hts
      generalize orI (cmpI (t l[k]) (t m)) (cmpI ((l[k] : Int) + 1) ((m : Int) + 1)) = c at *
      generalize l[k] = x at *
      by_cases hc : c < 0
      · have z := decide_eq_true hc
        have HB := Lib.hid (hb.1 hc)
        clear hb
        go_wp2_with (go_at_call 26; (with_reducible refine kb.mono ?_); rintro e w2 ⟨rfl, q, os, hw⟩; have hq2 : Q wr w2 := (by rw [hw]; exact grow_q wr q os); clear hw; have ck2 := keepc hq2 ck)
        go_roundw
        case rel =>
          refine ⟨k + 1, x, by go_num, by omega, by rw [HN.out]; omega, rfl, HMK.out, ?_, HQ.out.trans hq2⟩
          intro y hy
          rw [HTS.out] at hy
          have hb := HB.out
          unfold Whp.bef at hb
          rcases List.mem_append.1 hy with h | h
          · have := HLE.out y h; omega
          · simp at h; rw [h]; exact Nat.le_refl _
        case measure => simp [intOf]; omega
      · have z := decide_eq_false hc
        have HB := Lib.hid (show ¬ Whp.bef t x m from fun q => hc (hb.2 q))
        clear hb
        go_wp2_with (go_at_call 26; (with_reducible refine kb.mono ?_); rintro e w2 ⟨rfl, q, os, hw⟩; have hq2 : Q wr w2 := (by rw [hw]; exact grow_q wr q os); clear hw; have ck2 := keepc hq2 ck)
        go_roundw
        case rel =>
          refine ⟨k + 1, m, by go_num, by omega, by rw [HN.out]; omega, rfl, HM.out, ?_, HQ.out.trans hq2⟩
          intro y hy
          rw [HTS.out] at hy
          have hb := HB.out
          unfold Whp.bef at hb
          rcases List.mem_append.1 hy with h | h
          · exact HLE.out y h
          · simp at h; rw [h]; omega
        case measure => simp [intOf]; omega
    · obtain rfl : k = N := by omega
      have HA : Hid (∀ x ∈ l, t m ≤ t x) := Lib.hid (fun x hx => hle x (by rw [List.take_of_length_le (by rw [HN.out]; exact Nat.le_refl _)]; exact hx))
      clear hm hle hq
      go_wp2_with fail
      go_ret
      exact ⟨m, rfl, HM.out, HA.out, HQ.out⟩
end Go.Proofs.YtnmgcjkffeeapaaDoor
