/- The contract of civil.Parse. -/
import Derived.Test.YtdhlgmclogdplaaDoorTxtC
namespace Go.Proofs.YtdhlgmclogdplaaDoor
open Go.RowKit
set_option linter.unusedVariables false
set_option linter.unusedSimpArgs false
theorem time_any (y m d h i s : Int) (hb1 : -9223372036854775808 ≤ h ∧ h ≤ 9223372036854775807) (hb2 : -9223372036854775808 ≤ i ∧ i ≤ 9223372036854775807) (hb3 : -9223372036854775808 ≤ s ∧ s ≤ 9223372036854775807) (w : World) :
    Calls Tryd.prog 26 #[.agg #[.int .i64 y, .int .i64 m, .int .i64 d, .int .i64 h, .int .i64 i, .int .i64 s]] w fun e w' => e = .returned (.tuple #[.int .i64 (Cal.timeV y m d h i s), .int .i64 (Cal.timeE y m d h i s)]) ∧ Q w w' := by
  unfold Cal.timeV Cal.timeE
  by_cases g : Cal.Good y m d h i s
  · rw [if_pos g, if_pos g]; exact time_good y m d h i s g w
  · rw [if_neg g, if_neg g]; exact time_bad y m d h i s hb1 hb2 hb3 g w
theorem pt_top (S : ByteArray) (h : ∀ k, k < 19 → ok1 S k) (j : Nat) (hj : j < 6) : 0 ≤ pt S 19 j ∧ pt S 19 j ≤ 9999 := by
  have h1 := pt_bd S 19 j h
  have h2 : ∀ j, j < 6 → ln 19 j ≤ 4 := by decide
  have h2 := h2 j hj
  have h3 : (10 : Int) ^ (ln 19 j) ≤ 10000 := by
    rcases (show ln 19 j = 0 ∨ ln 19 j = 1 ∨ ln 19 j = 2 ∨ ln 19 j = 3 ∨ ln 19 j = 4 by omega) with e | e | e | e | e <;> rw [e] <;> decide
  omega
/-- what Parse answers -/
def pOk (S : ByteArray) : Prop := S.size = 19 ∧ ∀ j, j < 19 → ok1 S j
instance (S : ByteArray) (j : Nat) : Decidable (ok1 S j) := by unfold ok1; infer_instance
instance (S : ByteArray) : Decidable (pOk S) := by unfold pOk; infer_instance
def pV (S : ByteArray) : Int := if pOk S then Cal.timeV (pt S 19 0) (pt S 19 1) (pt S 19 2) (pt S 19 3) (pt S 19 4) (pt S 19 5) else 0
def pE (S : ByteArray) : Int := if pOk S then Cal.timeE (pt S 19 0) (pt S 19 1) (pt S 19 2) (pt S 19 3) (pt S 19 4) (pt S 19 5) else 10
theorem pbad {S : ByteArray} (h : ¬ pOk S) : pV S = 0 ∧ pE S = 10 := ⟨if_neg h, if_neg h⟩
theorem PR.mu {S : ByteArray} {w wr : World} {B i : Nat} {v : Value} (h : PR S w B i v wr) : wr.iterPos (B + 1) = i := by
  unfold World.iterPos; rw [h.2.2.2.1]
theorem parse_len (S : ByteArray) (hl : S.size < 9223372036854775808) (hsz : ¬ S.size = 19) (w : World) :
    Calls Tryd.prog 24 #[.string S] w fun e w' => e = .returned (.tuple #[.int .i64 0, .int .i64 10]) ∧ Q w w' := by
  have h1 : ((S.size : Int) != 19) = true := bne_t (by omega)
  have h2 : goInt S.size = .int .i64 S.size := by simp [goInt]
  go_enter Tryd.func24, Tryd.ntmps24
  go_wp2_with fail
  go_ret2
  exact ⟨rfl, by repeat (first | exact Q.refl _ | assumption | refine Q.alloc ?_ _ | refine Q.drew ?_ | refine Q.drewN ?_ _ | refine Q.trans ?_ (by assumption))⟩
set_option maxRecDepth 20000 in
set_option maxHeartbeats 4000000 in
theorem parse_19 (S : ByteArray) (hsz : S.size = 19) (w : World) :
    Calls Tryd.prog 24 #[.string S] w fun e w' => e = .returned (.tuple #[.int .i64 (pV S), .int .i64 (pE S)]) ∧ Q w w' := by
  go_enter Tryd.func24, Tryd.ntmps24
  go_wp2_with fail
  go_loopw [5] (fun k wr => ∃ i : Nat, PR S w w.heap.size i k wr) (fun _ wr => 19 - wr.iterPos (w.heap.size + 1))
  case atStart =>
    refine ⟨0, by omega, rfl, ((Q.refl _).alloc _).alloc _, ?_, ?_, fun j hj => absurd hj (by omega), ?_, ?_, ?_, ?_, ?_, ?_, ?_⟩
    · have := World.iter_heap (w.alloc (.cells #[.int .i64 0, .int .i64 0, .int .i64 0, .int .i64 0, .int .i64 0, .int .i64 0] 55)) F 0
      rw [World.size_alloc] at this; exact this
    · simp [World.iter]
    all_goals simp [World.iter, pt]
  case round =>
    obtain ⟨i, hrel⟩ := hrel
    have hi := hrel.1
    have hok := hrel.2.2.2.2.2.1
    have hkv := hrel.2.1
    subst hkv
    have hmu : wr.iterPos (w.heap.size + 1) = i := hrel.mu
    rcases Nat.lt_or_ge i 19 with hlt | hge
    · obtain ⟨w2, hpn, hn⟩ := hrel.next hlt
      have hw2q := hpn.1
      have hcs := hpn.2.2.2.1
      have hzs := hpn.2.2.2.2
      obtain ⟨c0, c1, c2, c3, c4, c5⟩ := hcs
      obtain ⟨z0, z1, z2, z3, z4, z5⟩ := hzs
      have hnot : ¬ ok1 S i → pV S = 0 ∧ pE S = 10 := fun h => pbad (fun p => h (p.2 i hlt))
      have hS := sx S hsz i hlt
      have hF := fx i hlt
      unfold F at hF
      obtain ⟨f, hf⟩ : ∃ x, fb i = x := ⟨_, rfl⟩
      obtain ⟨g, hg⟩ : ∃ x, gb S i = x := ⟨_, rfl⟩
      have pdg := fun (hf : fb i = 48) => pt_dig S i hlt hf hok
      have gbd := gb_bd S i
      unfold ok1 at hnot
      rw [hf] at hn hF hnot pdg
      rw [hg] at hS hnot gbd
      obtain ⟨k, hk⟩ : ∃ x, kk i = x := ⟨_, rfl⟩
      have hk5 := kk_le i hi
      rw [hk] at hk5 pdg ⊢
      by_cases h48 : f = 48
      · subst h48
        by_cases hd : 48 ≤ g ∧ g ≤ 57
        · obtain ⟨hd1, hd2⟩ := hd
          have y1 : (decide (g < 48)) = false := by simp; omega
          have y2 : (decide (57 < g)) = false := by simp; omega
          have pd := pdg rfl
          have r1 : IntKind.u8.wrap (g - 48) = g - 48 := by rw [IntKind.wrap_u8]; omega
          have r2 : IntKind.i64.wrap (g - 48) = g - 48 := by rw [IntKind.wrap_i64]; omega
          clear hnot pdg
          go_wp2_with fail
          go_quiet (fail)
          go_wp2_with fail
          rcases (show k = 0 ∨ k = 1 ∨ k = 2 ∨ k = 3 ∨ k = 4 ∨ k = 5 by omega) with rfl | rfl | rfl | rfl | rfl | rfl
          · obtain ⟨p, hp⟩ : ∃ x, pt S i 0 = x := ⟨_, rfl⟩
            rw [hp] at c0 pd
            obtain ⟨p0, p1⟩ := pd
            have r3 : IntKind.i64.wrap (p * 10) = p * 10 := by rw [IntKind.wrap_i64]; omega
            have r4 : IntKind.i64.wrap (p * 10 + (g - 48)) = p * 10 + (g - 48) := by rw [IntKind.wrap_i64]; omega
            go_region_with (fail)
            all_goals
              have hpD := fun n => PN.dig hpn hlt hf (by rw [hg]; exact ⟨hd1, hd2⟩) hrel.2.2.2.2.2.1 hk n
              rw [hg, hp] at hpD
              go_roundw
              case rel => first | exact ⟨i + 1, hpD _⟩ | ((repeat apply Exists.intro); exact ⟨⟨i + 1, hpD _⟩, rfl⟩)
              case measure => show 19 - World.iterPos _ _ < 19 - World.iterPos _ _; rw [hmu, (hpD _).mu]; omega
          · obtain ⟨p, hp⟩ : ∃ x, pt S i 1 = x := ⟨_, rfl⟩
            rw [hp] at c1 pd
            obtain ⟨p0, p1⟩ := pd
            have r3 : IntKind.i64.wrap (p * 10) = p * 10 := by rw [IntKind.wrap_i64]; omega
            have r4 : IntKind.i64.wrap (p * 10 + (g - 48)) = p * 10 + (g - 48) := by rw [IntKind.wrap_i64]; omega
            go_region_with (fail)
            all_goals
              have hpD := fun n => PN.dig hpn hlt hf (by rw [hg]; exact ⟨hd1, hd2⟩) hrel.2.2.2.2.2.1 hk n
              rw [hg, hp] at hpD
              go_roundw
              case rel => first | exact ⟨i + 1, hpD _⟩ | ((repeat apply Exists.intro); exact ⟨⟨i + 1, hpD _⟩, rfl⟩)
              case measure => show 19 - World.iterPos _ _ < 19 - World.iterPos _ _; rw [hmu, (hpD _).mu]; omega
          · obtain ⟨p, hp⟩ : ∃ x, pt S i 2 = x := ⟨_, rfl⟩
            rw [hp] at c2 pd
            obtain ⟨p0, p1⟩ := pd
            have r3 : IntKind.i64.wrap (p * 10) = p * 10 := by rw [IntKind.wrap_i64]; omega
            have r4 : IntKind.i64.wrap (p * 10 + (g - 48)) = p * 10 + (g - 48) := by rw [IntKind.wrap_i64]; omega
            go_region_with (fail)
            all_goals
              have hpD := fun n => PN.dig hpn hlt hf (by rw [hg]; exact ⟨hd1, hd2⟩) hrel.2.2.2.2.2.1 hk n
              rw [hg, hp] at hpD
              go_roundw
              case rel => first | exact ⟨i + 1, hpD _⟩ | ((repeat apply Exists.intro); exact ⟨⟨i + 1, hpD _⟩, rfl⟩)
              case measure => show 19 - World.iterPos _ _ < 19 - World.iterPos _ _; rw [hmu, (hpD _).mu]; omega
          · obtain ⟨p, hp⟩ : ∃ x, pt S i 3 = x := ⟨_, rfl⟩
            rw [hp] at c3 pd
            obtain ⟨p0, p1⟩ := pd
            have r3 : IntKind.i64.wrap (p * 10) = p * 10 := by rw [IntKind.wrap_i64]; omega
            have r4 : IntKind.i64.wrap (p * 10 + (g - 48)) = p * 10 + (g - 48) := by rw [IntKind.wrap_i64]; omega
            go_region_with (fail)
            all_goals
              have hpD := fun n => PN.dig hpn hlt hf (by rw [hg]; exact ⟨hd1, hd2⟩) hrel.2.2.2.2.2.1 hk n
              rw [hg, hp] at hpD
              go_roundw
              case rel => first | exact ⟨i + 1, hpD _⟩ | ((repeat apply Exists.intro); exact ⟨⟨i + 1, hpD _⟩, rfl⟩)
              case measure => show 19 - World.iterPos _ _ < 19 - World.iterPos _ _; rw [hmu, (hpD _).mu]; omega
          · obtain ⟨p, hp⟩ : ∃ x, pt S i 4 = x := ⟨_, rfl⟩
            rw [hp] at c4 pd
            obtain ⟨p0, p1⟩ := pd
            have r3 : IntKind.i64.wrap (p * 10) = p * 10 := by rw [IntKind.wrap_i64]; omega
            have r4 : IntKind.i64.wrap (p * 10 + (g - 48)) = p * 10 + (g - 48) := by rw [IntKind.wrap_i64]; omega
            go_region_with (fail)
            all_goals
              have hpD := fun n => PN.dig hpn hlt hf (by rw [hg]; exact ⟨hd1, hd2⟩) hrel.2.2.2.2.2.1 hk n
              rw [hg, hp] at hpD
              go_roundw
              case rel => first | exact ⟨i + 1, hpD _⟩ | ((repeat apply Exists.intro); exact ⟨⟨i + 1, hpD _⟩, rfl⟩)
              case measure => show 19 - World.iterPos _ _ < 19 - World.iterPos _ _; rw [hmu, (hpD _).mu]; omega
          · obtain ⟨p, hp⟩ : ∃ x, pt S i 5 = x := ⟨_, rfl⟩
            rw [hp] at c5 pd
            obtain ⟨p0, p1⟩ := pd
            have r3 : IntKind.i64.wrap (p * 10) = p * 10 := by rw [IntKind.wrap_i64]; omega
            have r4 : IntKind.i64.wrap (p * 10 + (g - 48)) = p * 10 + (g - 48) := by rw [IntKind.wrap_i64]; omega
            go_region_with (fail)
            all_goals
              have hpD := fun n => PN.dig hpn hlt hf (by rw [hg]; exact ⟨hd1, hd2⟩) hrel.2.2.2.2.2.1 hk n
              rw [hg, hp] at hpD
              go_roundw
              case rel => first | exact ⟨i + 1, hpD _⟩ | ((repeat apply Exists.intro); exact ⟨⟨i + 1, hpD _⟩, rfl⟩)
              case measure => show 19 - World.iterPos _ _ < 19 - World.iterPos _ _; rw [hmu, (hpD _).mu]; omega
        · have hno := hnot (by omega)
          clear hnot
          clear pdg
          by_cases hd1 : g < 48
          · have y1 : (decide (g < 48)) = true := by simp; omega
            have y2 : (decide (57 < g)) = false := by simp; omega
            go_wp2_with fail
            go_quiet (fail)
            go_wp2_with fail
            go_ret2
            rw [hno.1, hno.2]
            exact ⟨rfl, by repeat (first | exact Q.refl _ | assumption | refine Q.alloc ?_ _ | refine Q.drew ?_ | refine Q.drewN ?_ _ | refine Q.trans ?_ (by assumption))⟩
          · have y1 : (decide (g < 48)) = false := by simp; omega
            have y2 : (decide (57 < g)) = true := by simp; omega
            go_wp2_with fail
            go_quiet (fail)
            go_wp2_with fail
            go_ret2
            rw [hno.1, hno.2]
            exact ⟨rfl, by repeat (first | exact Q.refl _ | assumption | refine Q.alloc ?_ _ | refine Q.drew ?_ | refine Q.drewN ?_ _ | refine Q.trans ?_ (by assumption))⟩
      · have y3 : (f != 48) = true := bne_t h48
        by_cases hd : g = f
        · have hk6 : kk i = k := hk
          subst hd
          have r1 : IntKind.i64.wrap ((k : Int) + 1) = (k : Int) + 1 := by rw [IntKind.wrap_i64]; omega
          clear pdg hnot
          go_wp2_with fail
          go_quiet (fail)
          go_wp2_with fail
          have hpS := fun n => PN.sep hpn hlt (by rw [hf]; exact h48) (by rw [hg, hf]) hrel.2.2.2.2.2.1 hk n
          go_roundw
          case rel => first | exact ⟨i + 1, hpS _⟩ | ((repeat apply Exists.intro); exact ⟨⟨i + 1, hpS _⟩, rfl⟩)
          case measure => show 19 - World.iterPos _ _ < 19 - World.iterPos _ _; rw [hmu, (hpS _).mu]; omega
        · have y4 : (g == f) = false := beq_f hd
          have hno := hnot (by omega)
          clear hnot
          clear pdg
          go_wp2_with fail
          go_quiet (fail)
          go_wp2_with fail
          go_ret2
          rw [hno.1, hno.2]
          exact ⟨rfl, by repeat (first | exact Q.refl _ | assumption | refine Q.alloc ?_ _ | refine Q.drew ?_ | refine Q.drewN ?_ _ | refine Q.trans ?_ (by assumption))⟩
    · have hi19 : i = 19 := by omega
      subst hi19
      obtain ⟨_, hv0, hq, hit, hbs, hok, c0, c1, c2, c3, c4, c5, z0, z1, z2, z3, z4, z5⟩ := hrel
      have hn := next_last wr (w.heap.size + 1) hit
      have p0 := pt_top S hok 0 (by omega)
      have p3 := pt_top S hok 3 (by omega)
      have p4 := pt_top S hok 4 (by omega)
      have p5 := pt_top S hok 5 (by omega)
      have hv : pV S = Cal.timeV (pt S 19 0) (pt S 19 1) (pt S 19 2) (pt S 19 3) (pt S 19 4) (pt S 19 5) := if_pos ⟨hsz, hok⟩
      have he : pE S = Cal.timeE (pt S 19 0) (pt S 19 1) (pt S 19 2) (pt S 19 3) (pt S 19 4) (pt S 19 5) := if_pos ⟨hsz, hok⟩
      have k1 := fun w2 => time_any (pt S 19 0) (pt S 19 1) (pt S 19 2) (pt S 19 3) (pt S 19 4) (pt S 19 5) (by omega) (by omega) (by omega) w2
      clear hmu p0 p3 p4 p5
      go_wp2_with (first
        | (go_at_call 26; refine (k1 _).mono ?_; rintro e w1 ⟨rfl, hq1⟩))
      go_ret2
      rw [hv, he]
      exact ⟨rfl, by repeat (first | exact Q.refl _ | assumption | refine Q.alloc ?_ _ | refine Q.drew ?_ | refine Q.drewN ?_ _ | refine Q.trans ?_ (by assumption))⟩
theorem parse_any (S : ByteArray) (hl : S.size < 9223372036854775808) (w : World) :
    Calls Tryd.prog 24 #[.string S] w fun e w' => e = .returned (.tuple #[.int .i64 (pV S), .int .i64 (pE S)]) ∧ Q w w' := by
  by_cases h : S.size = 19
  · exact parse_19 S h w
  · obtain ⟨a, b⟩ := pbad (S := S) (fun p => h p.1)
    rw [a, b]; exact parse_len S hl h w
end Go.Proofs.YtdhlgmclogdplaaDoor
