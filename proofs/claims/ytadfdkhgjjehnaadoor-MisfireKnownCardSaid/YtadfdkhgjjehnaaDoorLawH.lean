/- The walks of the laws Texts and Back. -/
import Derived.Test.YtadfdkhgjjehnaaDoorMisR
import Derived.Test.YtadfdkhgjjehnaaDoorMisK
namespace Go.Proofs.YtadfdkhgjjehnaaDoor
open Go.RowKit
set_option linter.unusedVariables false
set_option linter.unusedSimpArgs false
theorem parse_yes (s : ByteArray) (hs : s.size ≤ 100) (q m : Int) (h : Is s q m) (w : World) (hT : Tab w) (hE : Ers w) :
    Calls Tryd.prog 30 #[.string s] w fun e w' => e = .returned (.tuple #[.int .i64 q, .int .i64 m, .int .i64 0]) ∧ Q w w' := by
  refine (parse_any s hs w hT hE).mono ?_
  rintro e w' ⟨p, k, r, rfl, hp, hq⟩
  obtain ⟨rfl, rfl, rfl⟩ := prs_one hp (Or.inl ⟨rfl, h⟩ : Prs s q m 0)
  exact ⟨rfl, hq⟩
theorem parse_no (s : ByteArray) (hs : s.size ≤ 100) (h : ∀ q m, ¬ Is s q m) (w : World) (hT : Tab w) (hE : Ers w) :
    Calls Tryd.prog 30 #[.string s] w fun e w' => e = .returned (.tuple #[.int .i64 0, .int .i64 0, .int .i64 10]) ∧ Q w w' := by
  refine (parse_any s hs w hT hE).mono ?_
  rintro e w' ⟨p, k, r, rfl, hp, hq⟩
  obtain ⟨rfl, rfl, rfl⟩ := prs_one hp (Or.inr ⟨rfl, rfl, rfl, h⟩ : Prs s 0 0 10)
  exact ⟨rfl, hq⟩
theorem rparse_yes (s : ByteArray) (q m : Int) (h : Is s q m) (w : World) :
    Calls Tryd.prog 31 #[.string s] w fun e w' => e = .returned (.tuple #[.int .i64 q, .int .i64 m, .int .i64 0]) ∧ Q w w' := by
  refine (rparse_any s w).mono ?_
  rintro e w' ⟨p, k, r, rfl, hp, hq⟩
  obtain ⟨rfl, rfl, rfl⟩ := prs_one hp (Or.inl ⟨rfl, h⟩ : Prs s q m 0)
  exact ⟨rfl, hq⟩
theorem rparse_no (s : ByteArray) (h : ∀ q m, ¬ Is s q m) (w : World) :
    Calls Tryd.prog 31 #[.string s] w fun e w' => e = .returned (.tuple #[.int .i64 0, .int .i64 0, .int .i64 10]) ∧ Q w w' := by
  refine (rparse_any s w).mono ?_
  rintro e w' ⟨p, k, r, rfl, hp, hq⟩
  obtain ⟨rfl, rfl, rfl⟩ := prs_one hp (Or.inr ⟨rfl, rfl, rfl, h⟩ : Prs s 0 0 10)
  exact ⟨rfl, hq⟩
/-- what a text is read as: the two readers alike -/
theorem parse_both (s : ByteArray) (hs : s.size ≤ 100) : ∃ q m r : Int, Prs s q m r ∧
    (∀ w, Tab w → Ers w → Calls Tryd.prog 30 #[.string s] w fun e w' => e = .returned (.tuple #[.int .i64 q, .int .i64 m, .int .i64 r]) ∧ Q w w') ∧
    (∀ w, Calls Tryd.prog 31 #[.string s] w fun e w' => e = .returned (.tuple #[.int .i64 q, .int .i64 m, .int .i64 r]) ∧ Q w w') := by
  by_cases h : ∃ q m, Is s q m
  · obtain ⟨q, m, h⟩ := h
    exact ⟨q, m, 0, Or.inl ⟨rfl, h⟩, fun w hT hE => parse_yes s hs q m h w hT hE, fun w => rparse_yes s q m h w⟩
  · have h2 : ∀ q m, ¬ Is s q m := fun q m g => h ⟨q, m, g⟩
    exact ⟨0, 0, 10, Or.inr ⟨rfl, rfl, rfl, h2⟩, fun w hT hE => parse_no s hs h2 w hT hE, fun w => rparse_no s h2 w⟩
theorem tx_size (p k : Int) : (tx p k).size ≤ 100 := by
  unfold tx
  split
  · rename_i h
    rcases chk_cases h with ⟨rfl, rfl⟩ | ⟨rfl, rfl⟩ | ⟨rfl, rfl⟩ | ⟨rfl, a, b⟩
    · decide
    · decide
    · decide
    · show ((⟨#[115, 111, 109, 101, 58]⟩ : ByteArray) ++ strOfNums (dgs k (nz k))).size ≤ 100
      rw [some_size, dgs_size]
      unfold nz; (repeat' split) <;> omega
  · decide
set_option maxHeartbeats 1000000 in
theorem texts_walk (p k : Int) (s : ByteArray) (w0 : (Lit.int .i64 p).wf = true) (w1 : (Lit.int .i64 k).wf = true) (w2 : s.size < 9223372036854775808) (w : World) (hTE : Tab w ∧ Ers w) :
    Calls Tryd.prog 10 #[.int .i64 p, .int .i64 k, .string s] w fun e w' => e = .returned (.bool true) ∧ Q w w' := by
  obtain ⟨hT, hE⟩ := hTE
  clear w0 w1
  have w2' : 0 ≤ (s.size : Int) ∧ (s.size : Int) ≤ 9223372036854775807 := by omega
  clear w2
  have hgi : goInt s.size = .int .i64 s.size := by simp [goInt]
  by_cases hbig : 100 < s.size
  · have y1 : decide ((100 : Int) < (s.size : Int)) = true := by simp; omega
    go_enter Tryd.func10, Tryd.ntmps10
    go_wp2_with (go_at_call 14; refine (works_any _ hT).mono ?_; rintro e w9 ⟨rfl, hq9⟩)
    go_ret
    exact ⟨rfl, hq9⟩
  · have y1 : decide ((100 : Int) < (s.size : Int)) = false := by simp; omega
    have hs : s.size ≤ 100 := by omega
    obtain ⟨q, m, r, hp, kp, kr⟩ := parse_both s hs
    have HP := Lib.hid hp
    have kt := fun w2 (hT2 : Tab w2) => text_any p k w2 hT2
    have ku := fun w2 => rtext_any p k w2
    obtain ⟨T, hTT⟩ : ∃ T, tx p k = T := ⟨_, rfl⟩
    obtain ⟨E, hEE⟩ : ∃ E, Mf.chkE p k = E := ⟨_, rfl⟩
    rw [hTT, hEE] at kt ku
    clear hp hTT hEE
    go_enter Tryd.func10, Tryd.ntmps10
    go_wp2_with (first
      | (go_at_call 28; refine (kt _ hT).mono ?_; rintro e w3 ⟨rfl, hq3⟩)
      | (go_at_call 29; refine (ku _).mono ?_; rintro e w4 ⟨rfl, hq4⟩)
      | (go_at_call 30; refine (kp _ (hT.later (hq3.trans hq4)) (hE.later (hq3.trans hq4))).mono ?_; rintro e w5 ⟨rfl, hq5⟩)
      | (go_at_call 31; refine (kr _).mono ?_; rintro e w6 ⟨rfl, hq6⟩)
      | (go_at_call 14; refine (works_any _ (hT.later (((hq3.trans hq4).trans hq5).trans hq6))).mono ?_; rintro e w7 ⟨rfl, hq7⟩))
    go_ret
    exact ⟨rfl, (((hq3.trans hq4).trans hq5).trans hq6).trans hq7⟩
set_option maxHeartbeats 1000000 in
theorem back_walk (p k : Int) (s : ByteArray) (w0 : (Lit.int .i64 p).wf = true) (w1 : (Lit.int .i64 k).wf = true) (w2 : s.size < 9223372036854775808) (w : World) (hTE : Tab w ∧ Ers w) :
    Calls Tryd.prog 11 #[.int .i64 p, .int .i64 k, .string s] w fun e w' => e = .returned (.bool true) ∧ Q w w' := by
  obtain ⟨hT, hE⟩ := hTE
  clear w0 w1
  have w2' : 0 ≤ (s.size : Int) ∧ (s.size : Int) ≤ 9223372036854775807 := by omega
  clear w2
  have hgi : goInt s.size = .int .i64 s.size := by simp [goInt]
  by_cases hbig : 100 < s.size
  · have y1 : decide ((100 : Int) < (s.size : Int)) = true := by simp; omega
    go_enter Tryd.func11, Tryd.ntmps11
    go_wp2_with (go_at_call 14; refine (works_any _ hT).mono ?_; rintro e w9 ⟨rfl, hq9⟩)
    go_ret
    exact ⟨rfl, hq9⟩
  · have y1 : decide ((100 : Int) < (s.size : Int)) = false := by simp; omega
    have hs : s.size ≤ 100 := by omega
    have kt := fun w2 (hT2 : Tab w2) => text_any p k w2 hT2
    have kc := fun w2 => check_any p k w2
    have hts := tx_size p k
    rcases chk_vals p k with h | h
    · rw [h] at kt
      have kp := parse_yes (tx p k) hts p k (eq_is h rfl)
      obtain ⟨T, hTT⟩ : ∃ T, tx p k = T := ⟨_, rfl⟩
      rw [hTT] at kt kp
      clear h hTT hts kc
      by_cases hi : ∃ q m, Is s q m
      · obtain ⟨q, m, hi⟩ := hi
        have ks := parse_yes s hs q m hi
        have kx := fun w2 (hT2 : Tab w2) => text_any q m w2 hT2
        rw [hi.1, show tx q m = s by unfold tx; rw [if_pos hi.1]; exact hi.2.symm] at kx
        clear hi
        go_enter Tryd.func11, Tryd.ntmps11
        go_wp2_with (first
          | (go_at_call 28; with_reducible refine (kt _ ?_).mono ?_; (exact hT); rintro e w3 ⟨rfl, hq3⟩)
          | (go_at_call 30; with_reducible refine (kp _ ?_ ?_).mono ?_; (exact hT.later hq3); (exact hE.later hq3); rintro e w4 ⟨rfl, hq4⟩)
          | (go_at_call 30; with_reducible refine (ks _ ?_ ?_).mono ?_; (exact hT.later (hq3.trans hq4)); (exact hE.later (hq3.trans hq4)); rintro e w5 ⟨rfl, hq5⟩)
          | (go_at_call 28; with_reducible refine (kx _ ?_).mono ?_; (exact hT.later ((hq3.trans hq4).trans hq5)); rintro e w6 ⟨rfl, hq6⟩)
          | (go_at_call 14; refine (works_any _ (hT.later (((hq3.trans hq4).trans hq5).trans hq6))).mono ?_; rintro e w7 ⟨rfl, hq7⟩))
        go_ret
        exact ⟨rfl, (((hq3.trans hq4).trans hq5).trans hq6).trans hq7⟩
      · have ks := parse_no s hs (fun q m g => hi ⟨q, m, g⟩)
        clear hi
        go_enter Tryd.func11, Tryd.ntmps11
        go_wp2_with (first
          | (go_at_call 28; with_reducible refine (kt _ ?_).mono ?_; (exact hT); rintro e w3 ⟨rfl, hq3⟩)
          | (go_at_call 30; with_reducible refine (kp _ ?_ ?_).mono ?_; (exact hT.later hq3); (exact hE.later hq3); rintro e w4 ⟨rfl, hq4⟩)
          | (go_at_call 30; with_reducible refine (ks _ ?_ ?_).mono ?_; (exact hT.later (hq3.trans hq4)); (exact hE.later (hq3.trans hq4)); rintro e w5 ⟨rfl, hq5⟩)
          | (go_at_call 14; refine (works_any _ (hT.later ((hq3.trans hq4).trans hq5))).mono ?_; rintro e w7 ⟨rfl, hq7⟩))
        go_ret
        exact ⟨rfl, ((hq3.trans hq4).trans hq5).trans hq7⟩
    · rw [h, show tx p k = ⟨#[]⟩ by unfold tx; rw [if_neg (by omega)]] at kt
      rw [h] at kc
      clear h hts
      by_cases hi : ∃ q m, Is s q m
      · obtain ⟨q, m, hi⟩ := hi
        have ks := parse_yes s hs q m hi
        have kx := fun w2 (hT2 : Tab w2) => text_any q m w2 hT2
        rw [hi.1, show tx q m = s by unfold tx; rw [if_pos hi.1]; exact hi.2.symm] at kx
        clear hi
        go_enter Tryd.func11, Tryd.ntmps11
        go_wp2_with (first
          | (go_at_call 28; with_reducible refine (kt _ ?_).mono ?_; (exact hT); rintro e w3 ⟨rfl, hq3⟩)
          | (go_at_call 19; refine (kc _).mono ?_; rintro e w4 ⟨rfl, hq4⟩)
          | (go_at_call 30; with_reducible refine (ks _ ?_ ?_).mono ?_; (exact hT.later (hq3.trans hq4)); (exact hE.later (hq3.trans hq4)); rintro e w5 ⟨rfl, hq5⟩)
          | (go_at_call 28; with_reducible refine (kx _ ?_).mono ?_; (exact hT.later ((hq3.trans hq4).trans hq5)); rintro e w6 ⟨rfl, hq6⟩)
          | (go_at_call 14; refine (works_any _ (hT.later (((hq3.trans hq4).trans hq5).trans hq6))).mono ?_; rintro e w7 ⟨rfl, hq7⟩))
        go_ret
        exact ⟨rfl, (((hq3.trans hq4).trans hq5).trans hq6).trans hq7⟩
      · have ks := parse_no s hs (fun q m g => hi ⟨q, m, g⟩)
        clear hi
        go_enter Tryd.func11, Tryd.ntmps11
        go_wp2_with (first
          | (go_at_call 28; with_reducible refine (kt _ ?_).mono ?_; (exact hT); rintro e w3 ⟨rfl, hq3⟩)
          | (go_at_call 19; refine (kc _).mono ?_; rintro e w4 ⟨rfl, hq4⟩)
          | (go_at_call 30; with_reducible refine (ks _ ?_ ?_).mono ?_; (exact hT.later (hq3.trans hq4)); (exact hE.later (hq3.trans hq4)); rintro e w5 ⟨rfl, hq5⟩)
          | (go_at_call 14; refine (works_any _ (hT.later ((hq3.trans hq4).trans hq5))).mono ?_; rintro e w7 ⟨rfl, hq7⟩))
        go_ret
        exact ⟨rfl, ((hq3.trans hq4).trans hq5).trans hq7⟩
end Go.Proofs.YtadfdkhgjjehnaaDoor
