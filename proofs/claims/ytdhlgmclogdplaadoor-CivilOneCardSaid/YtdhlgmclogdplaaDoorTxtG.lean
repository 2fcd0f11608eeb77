/- The contract of the document's Parse. -/
import Derived.Test.YtdhlgmclogdplaaDoorTxtF
namespace Go.Proofs.YtdhlgmclogdplaaDoor
open Go.RowKit
set_option linter.unusedVariables false
set_option linter.unusedSimpArgs false
def D : ByteArray := ⟨#[100, 100, 100, 100, 45, 100, 100, 45, 100, 100, 32, 100, 100, 58, 100, 100, 58, 100, 100]⟩
def db (i : Nat) : Int := [100, 100, 100, 100, 45, 100, 100, 45, 100, 100, 32, 100, 100, 58, 100, 100, 58, 100, 100].getD i 0
theorem db_dig (i : Nat) (h : i < 19) (hf : fb i = 48) : db i = 100 := by
  have : ∀ i, i < 19 → fb i = 48 → db i = 100 := by decide
  exact this i h hf
theorem db_sep (i : Nat) (h : i < 19) (hf : fb i ≠ 48) : db i = fb i ∧ fb i ≠ 100 := by
  have : ∀ i, i < 19 → fb i ≠ 48 → db i = fb i ∧ fb i ≠ 100 := by decide
  exact this i h hf
theorem dx (i : Nat) (hi : i < 19) (w : World) : (Instr.index 9 (.string D) (.int .i64 (i : Int))).run Tryd.prog w = .ok (.int .u8 (db i)) w := by
  rw [run_index_string w 9 D .i64 (i : Int) Tryd.underlying9, dif_pos (by have : D.size = 19 := rfl; omega)]
  rcases (show i = 0 ∨ i = 1 ∨ i = 2 ∨ i = 3 ∨ i = 4 ∨ i = 5 ∨ i = 6 ∨ i = 7 ∨ i = 8 ∨ i = 9 ∨ i = 10 ∨ i = 11 ∨ i = 12 ∨ i = 13 ∨ i = 14 ∨ i = 15 ∨ i = 16 ∨ i = 17 ∨ i = 18 by omega) with rfl | rfl | rfl | rfl | rfl | rfl | rfl | rfl | rfl | rfl | rfl | rfl | rfl | rfl | rfl | rfl | rfl | rfl | rfl <;> rfl
def RR (S : ByteArray) (w : World) (i : Nat) (v : Value) (wr : World) : Prop := i ≤ 19 ∧ v = .int .i64 i ∧ Q w wr ∧ ∀ j, j < i → ok1 S j
theorem RR.next {S : ByteArray} {w wr wn : World} {i : Nat} {v v' : Value} (h : RR S w i v wr) (hlt : i < 19) (ho : ok1 S i) (hv : v' = .int .i64 ((i : Int) + 1)) (hq : Q w wn) : RR S w (i + 1) v' wn := by
  refine ⟨by omega, by rw [hv]; push_cast; rfl, hq, fun j hj => ?_⟩
  rcases Nat.lt_or_ge j i with g | g
  · exact h.2.2.2 j g
  · have : j = i := by omega
    subst this; exact ho
theorem rparse_len (S : ByteArray) (hl : S.size < 9223372036854775808) (hsz : ¬ S.size = 19) (w : World) :
    Calls Tryd.prog 25 #[.string S] w fun e w' => e = .returned (.tuple #[.int .i64 0, .int .i64 10]) ∧ Q w w' := by
  have h1 : ((S.size : Int) != 19) = true := bne_t (by omega)
  have h2 : goInt S.size = .int .i64 S.size := by simp [goInt]
  go_enter Tryd.func25, Tryd.ntmps25
  go_wp2_with fail
  go_ret2
  exact ⟨rfl, by repeat (first | exact Q.refl _ | assumption | refine Q.alloc ?_ _ | refine Q.drew ?_ | refine Q.drewN ?_ _ | refine Q.trans ?_ (by assumption))⟩
set_option maxRecDepth 20000 in
set_option maxHeartbeats 4000000 in
theorem rparse_19 (S : ByteArray) (hsz : S.size = 19) (w : World) :
    Calls Tryd.prog 25 #[.string S] w fun e w' => e = .returned (.tuple #[.int .i64 (pV S), .int .i64 (pE S)]) ∧ Q w w' := by
  go_enter Tryd.func25, Tryd.ntmps25
  go_wp2_with fail
  go_loopw [5] (fun v wr => ∃ i : Nat, RR S w i v wr) (fun v _ => 19 - (intOf v).toNat)
  case atStart => exact ⟨0, by omega, rfl, Q.refl _, fun j hj => absurd hj (by omega)⟩
  case round =>
    obtain ⟨i, hrel⟩ := hrel
    have hi := hrel.1
    have hkv := hrel.2.1
    have hq := hrel.2.2.1
    subst hkv
    rcases Nat.lt_or_ge i 19 with hlt | hge
    · have hnot : ¬ ok1 S i → pV S = 0 ∧ pE S = 10 := fun h => pbad (fun p => h (p.2 i hlt))
      have hyes : ok1 S i ↔ _ := Iff.rfl
      have hS := sx S hsz i hlt
      have hF := dx i hlt
      unfold D at hF
      have y0 : decide ((i : Int) < 19) = true := by simp; omega
      have r1 : IntKind.i64.wrap ((i : Int) + 1) = (i : Int) + 1 := by rw [IntKind.wrap_i64]; omega
      obtain ⟨g, hg⟩ : ∃ x, gb S i = x := ⟨_, rfl⟩
      have gbd := gb_bd S i
      rw [hg] at hS gbd
      by_cases h48 : fb i = 48
      · rw [db_dig i hlt h48] at hF
        by_cases hd : 48 ≤ g ∧ g ≤ 57
        · have ho : ok1 S i := Or.inl ⟨h48, by rw [hg]; exact hd⟩
          obtain ⟨hd1, hd2⟩ := hd
          have y1 : (decide (g < 48)) = false := by simp; omega
          have y2 : (decide (57 < g)) = false := by simp; omega
          clear hnot hyes
          go_wp2_with fail
          go_quiet (fail)
          go_wp2_with fail
          go_roundw
          case rel => exact ⟨i + 1, hrel.next hlt ho rfl (by repeat (first | exact Q.refl _ | assumption | refine Q.alloc ?_ _ | refine Q.drew ?_ | refine Q.drewN ?_ _ | refine Q.trans ?_ (by assumption)))⟩
          case measure => simp [intOf]; omega
        · have hno := hnot (by unfold ok1; omega)
          clear hnot hyes
          by_cases hd1 : g < 48
          · have y1 : (decide (g < 48)) = true := by simp; omega
            have y2 : (decide (57 < g)) = false := by simp; omega
            go_wp2_with fail
            go_quiet (fail)
            go_wp2_with fail
            go_ret2
            rw [hno.1, hno.2]
            exact ⟨rfl, by repeat (first | exact Q.refl _ | assumption | refine Q.alloc ?_ _ | refine Q.drew ?_ | refine Q.drewN ?_ _ | refine Q.trans ?_ (by assumption))⟩
          · have y1 : (decide (g < 48)) = false := by simp; omega
            have y2 : (decide (57 < g)) = true := by simp; omega
            go_wp2_with fail
            go_quiet (fail)
            go_wp2_with fail
            go_ret2
            rw [hno.1, hno.2]
            exact ⟨rfl, by repeat (first | exact Q.refl _ | assumption | refine Q.alloc ?_ _ | refine Q.drew ?_ | refine Q.drewN ?_ _ | refine Q.trans ?_ (by assumption))⟩
      · rw [(db_sep i hlt h48).1] at hF
        have h100 := (db_sep i hlt h48).2
        obtain ⟨f, hf⟩ : ∃ x, fb i = x := ⟨_, rfl⟩
        rw [hf] at h48 hF h100
        have y3 : (f == 100) = false := beq_f h100
        have y4 : (f != 100) = true := bne_t h100
        by_cases hd : g = f
        · subst hd
          have ho : ok1 S i := Or.inr ⟨by rw [hf]; exact h48, by rw [hg, hf]⟩
          clear hnot hyes
          go_wp2_with fail
          go_quiet (fail)
          go_wp2_with fail
          go_roundw
          case rel => exact ⟨i + 1, hrel.next hlt ho rfl (by repeat (first | exact Q.refl _ | assumption | refine Q.alloc ?_ _ | refine Q.drew ?_ | refine Q.drewN ?_ _ | refine Q.trans ?_ (by assumption)))⟩
          case measure => simp [intOf]; omega
        · have y5 : (g != f) = true := bne_t hd
          have hno := hnot (by unfold ok1; omega)
          clear hnot hyes
          go_wp2_with fail
          go_quiet (fail)
          go_wp2_with fail
          go_ret2
          rw [hno.1, hno.2]
          exact ⟨rfl, by repeat (first | exact Q.refl _ | assumption | refine Q.alloc ?_ _ | refine Q.drew ?_ | refine Q.drewN ?_ _ | refine Q.trans ?_ (by assumption))⟩
    · have hi19 : i = 19 := by omega
      subst hi19
      have hok := hrel.2.2.2
      have hv : pV S = Cal.timeV (pt S 19 0) (pt S 19 1) (pt S 19 2) (pt S 19 3) (pt S 19 4) (pt S 19 5) := if_pos ⟨hsz, hok⟩
      have he : pE S = Cal.timeE (pt S 19 0) (pt S 19 1) (pt S 19 2) (pt S 19 3) (pt S 19 4) (pt S 19 5) := if_pos ⟨hsz, hok⟩
      have k1 := fun w2 => rtime_any (pt S 19 0) (pt S 19 1) (pt S 19 2) (pt S 19 3) (pt S 19 4) (pt S 19 5) w2
      obtain ⟨T0, T1, T2, T3, T4, T5, s0, s1, s2, s3, s4, s5, n0, n1, n2, n3, n4, n5⟩ := parts S hsz hok
      clear hok
      go_wp2_with fail
      go_region_held3 (fun _ => True) (go_keep) (first
        | (go_at_call 41; with_reducible refine (n0 _).mono ?_; rintro e w1 ⟨rfl, rfl⟩)
        | (go_at_call 41; with_reducible refine (n1 _).mono ?_; rintro e w1 ⟨rfl, rfl⟩)
        | (go_at_call 41; with_reducible refine (n2 _).mono ?_; rintro e w1 ⟨rfl, rfl⟩)
        | (go_at_call 41; with_reducible refine (n3 _).mono ?_; rintro e w1 ⟨rfl, rfl⟩)
        | (go_at_call 41; with_reducible refine (n4 _).mono ?_; rintro e w1 ⟨rfl, rfl⟩)
        | (go_at_call 41; with_reducible refine (n5 _).mono ?_; rintro e w1 ⟨rfl, rfl⟩)
        | (go_at_call 33; with_reducible refine (k1 _).mono ?_; rintro e w1 ⟨rfl, hq1⟩))
      all_goals
        go_wp2_with fail
        go_ret2
        rw [hv, he]
        exact ⟨rfl, by repeat (first | exact Q.refl _ | assumption | refine Q.alloc ?_ _ | refine Q.drew ?_ | refine Q.drewN ?_ _ | refine Q.trans ?_ (by assumption))⟩
theorem rparse_any (S : ByteArray) (hl : S.size < 9223372036854775808) (w : World) :
    Calls Tryd.prog 25 #[.string S] w fun e w' => e = .returned (.tuple #[.int .i64 (pV S), .int .i64 (pE S)]) ∧ Q w w' := by
  by_cases h : S.size = 19
  · exact rparse_19 S h w
  · obtain ⟨a, b⟩ := pbad (S := S) (fun p => h p.1)
    rw [a, b]; exact rparse_len S hl h w
end Go.Proofs.YtdhlgmclogdplaaDoor
