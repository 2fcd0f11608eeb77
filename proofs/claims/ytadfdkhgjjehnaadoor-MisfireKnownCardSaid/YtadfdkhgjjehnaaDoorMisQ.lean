/- The contract of the document's Parse. -/
import Derived.Test.YtadfdkhgjjehnaaDoorMisP
namespace Go.Proofs.YtadfdkhgjjehnaaDoor
open Go.RowKit
set_option linter.unusedVariables false
set_option linter.unusedSimpArgs false
/-- what a reading answers -/
def PrsPost (s : ByteArray) (w : World) (e : Ending) (w' : World) : Prop := ∃ p k r : Int, e = .returned (.tuple #[.int .i64 p, .int .i64 k, .int .i64 r]) ∧ Prs s p k r ∧ Q w w'
/-- no policy ahead of i, j has this text -/
def Far (s : ByteArray) (i j : Nat) : Prop := ∀ p k : Int, Is s p k → (i : Int) < p ∨ ((i : Int) = p ∧ (j : Int) ≤ k)
theorem far_zero (s : ByteArray) : Far s 0 0 := by
  intro p k h
  rcases is_cases h with ⟨rfl, rfl, _⟩ | ⟨rfl, rfl, _⟩ | ⟨rfl, rfl, _⟩ | ⟨rfl, b, _⟩ <;> simp
theorem far_end {s : ByteArray} {i : Nat} (h : Far s i 101) : Far s (i + 1) 0 := by
  intro p k g
  have := h p k g
  rcases is_keep g with ⟨a, b⟩ | ⟨a, b, c⟩ <;> omega
theorem far_step {s : ByteArray} {i j : Nat} (h : Far s i j) (hn : ¬ Is s i j) : Far s i (j + 1) := by
  intro p k g
  rcases h p k g with a | ⟨a, b⟩
  · exact Or.inl a
  · right
    refine ⟨a, ?_⟩
    rcases Int.lt_or_eq_of_le b with c | c
    · omega
    · subst a c; exact absurd g hn
theorem far_none {s : ByteArray} (h : Far s 4 0) : ∀ q m, ¬ Is s q m := by
  intro p k g
  have := h p k g
  rcases is_cases g with ⟨rfl, rfl, _⟩ | ⟨rfl, rfl, _⟩ | ⟨rfl, rfl, _⟩ | ⟨rfl, b, _⟩ <;> omega
theorem ne_is0 {s : ByteArray} {p k : Int} (h : tx p k ≠ s) : ¬ Is s p k := by
  rintro ⟨a, b⟩
  unfold tx at h
  rw [if_pos a] at h
  exact h b.symm
theorem ne_is2 {s : ByteArray} {p k : Int} (h : Mf.chkE p k = 2) : ¬ Is s p k := by
  rintro ⟨a, b⟩
  omega
theorem eq_is {s : ByteArray} {p k : Int} (h : Mf.chkE p k = 0) (g : tx p k = s) : Is s p k := by
  unfold tx at g
  rw [if_pos h] at g
  exact ⟨h, g.symm⟩
set_option maxHeartbeats 1000000 in
theorem rparse_any (s : ByteArray) (w : World) : Calls Tryd.prog 31 #[.string s] w (PrsPost s w) := by
  go_enter Tryd.func31, Tryd.ntmps31
  go_wp2_with fail
  go_loopw [5] (fun vp wr => ∃ i : Nat, vp = .int .i64 i ∧ i ≤ 4 ∧ Far s i 0 ∧ Q w wr) (fun vp _ => 4 - (intOf vp).toNat)
  case atStart => exact ⟨0, rfl, by omega, far_zero s, Q.refl _⟩
  case round =>
    obtain ⟨i, rfl, hi, hf, hq⟩ := hrel
    have HF := Lib.hid hf; clear hf
    rcases Nat.lt_or_ge i 4 with hlt | hge
    · have y1 : decide ((i : Int) ≤ 3) = true := by simp; omega
      go_wp2_with fail
      go_loopw [6] (fun vk wr => ∃ j : Nat, vk = .int .i64 j ∧ j ≤ 101 ∧ Far s i j ∧ Q w wr) (fun vk _ => 101 - (intOf vk).toNat)
      case atStart => exact ⟨0, rfl, by omega, HF.out, hq⟩
      case round =>
        obtain ⟨j, rfl, hj, hf, hq⟩ := hrel
        clear HF
        have HF := Lib.hid hf; clear hf
        rcases Nat.lt_or_ge j 101 with hlj | hgj
        · have y2 : decide ((j : Int) ≤ 100) = true := by simp; omega
          have kr := fun w2 => rtext_any i j w2
          obtain ⟨t, ht⟩ : ∃ t, tx i j = t := ⟨_, rfl⟩
          rw [ht] at kr
          rcases chk_vals i j with h | h
          · rw [h] at kr
            by_cases e : t = s
            · have y3 := bs_t e
              have HI := Lib.hid (eq_is h (ht.trans e))
              clear h ht e
              go_wp2_with (go_at_call 29; refine (kr _).mono ?_; rintro e w1 ⟨rfl, hq1⟩)
              refine bodyPost_ret (v := .tuple #[.int .i64 i, .int .i64 j, .int .i64 0]) (by simp [results, Tryd.results31, go_sem]) rfl ⟨i, j, 0, rfl, Or.inl ⟨rfl, HI.out⟩, ?_⟩
              exact hq.trans hq1
            · have y3 := bs_f e
              have HN := Lib.hid (ne_is0 (p := i) (k := j) (by rw [ht]; exact e))
              clear h ht e
              go_wp2_with (go_at_call 29; refine (kr _).mono ?_; rintro e w1 ⟨rfl, hq1⟩)
              go_roundw
              case rel => exact ⟨j + 1, by go_num, by omega, far_step HF.out HN.out, hq.trans hq1⟩
              case measure => simp [intOf]; omega
          · rw [h] at kr
            have HN := Lib.hid (ne_is2 (s := s) h)
            clear h ht
            go_wp2_with (go_at_call 29; refine (kr _).mono ?_; rintro e w1 ⟨rfl, hq1⟩)
            go_roundw
            case rel => exact ⟨j + 1, by go_num, by omega, far_step HF.out HN.out, hq.trans hq1⟩
            case measure => simp [intOf]; omega
        · obtain rfl : j = 101 := by omega
          go_wp2_with fail
          go_roundw
          case rel => exact ⟨i + 1, by go_num, by omega, far_end HF.out, hq⟩
          case measure => simp [intOf]; omega
    · obtain rfl : i = 4 := by omega
      go_wp2_with fail
      refine bodyPost_ret (v := .tuple #[.int .i64 0, .int .i64 0, .int .i64 10]) (by simp [results, Tryd.results31, go_sem]) rfl ⟨0, 0, 10, rfl, Or.inr ⟨rfl, rfl, rfl, far_none HF.out⟩, hq⟩
end Go.Proofs.YtadfdkhgjjehnaaDoor
