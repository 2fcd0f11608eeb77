/- The contract of civil.Time. -/
import Derived.Test.YtdhlgmclogdplaaDoorCivB
namespace Go.Proofs.YtdhlgmclogdplaaDoor
open Go.RowKit
set_option linter.unusedVariables false
/-- a civil time in a block of its own: its cells, in a later world -/
theorem box6 {w w2 : World} {a b c d e f : Value} {T : TypeId} (hq : Q (w.alloc (.cells #[a, b, c, d, e, f] T)) w2) :
    w2.cell? ⟨w.heap.size, 0, none⟩ = some a ∧ w2.cell? ⟨w.heap.size, 1, none⟩ = some b ∧ w2.cell? ⟨w.heap.size, 2, none⟩ = some c ∧ w2.cell? ⟨w.heap.size, 3, none⟩ = some d ∧ w2.cell? ⟨w.heap.size, 4, none⟩ = some e ∧ w2.cell? ⟨w.heap.size, 5, none⟩ = some f ∧ w.heap.size < w2.heap.size := by
  have hc : ∀ j, w2.cell? ⟨w.heap.size, j, none⟩ = (w.alloc (.cells #[a, b, c, d, e, f] T)).cell? ⟨w.heap.size, j, none⟩ := fun j => hq.cell (p := ⟨w.heap.size, j, none⟩) (by simp)
  have hs := hq.size
  simp at hs
  refine ⟨(hc 0).trans (by simp), (hc 1).trans (by simp), (hc 2).trans (by simp), (hc 3).trans (by simp), (hc 4).trans (by simp), (hc 5).trans (by simp), by omega⟩
theorem time_good (y m d h i s : Int) (g : Cal.Good y m d h i s) (w : World) :
    Calls Tryd.prog 26 #[.agg #[.int .i64 y, .int .i64 m, .int .i64 d, .int .i64 h, .int .i64 i, .int .i64 s]] w fun e w' => e = .returned (.tuple #[.int .i64 (Cal.secs y m d h i s), .int .i64 0]) ∧ Q w w' := by
  have hr := Cal.secs_range g
  have ho := Cal.of_secs g
  have hd := g.1
  have hn := neq6 y m d h i s y m d h i s
  simp only [same6_refl, Bool.not_true] at hn
  obtain ⟨v, h1, h2, h3, h4, h5, h6⟩ := g
  have hnr := Cal.num_range v
  obtain ⟨T, hT⟩ : ∃ T, Cal.num y m d * 86400 + (h * 3600 + i * 60 + s) = T := ⟨_, rfl⟩
  have eT : Cal.secs y m d h i s = T := by unfold Cal.secs; omega
  rw [eT] at hr ho ⊢
  obtain ⟨o1, o2, o3, o4, o5, o6⟩ := ho
  have hok := hr.1
  obtain ⟨MX, hmx⟩ : ∃ MX, (if (if h < i then i else h) < s then s else (if h < i then i else h)) = MX := ⟨_, rfl⟩
  obtain ⟨MN, hmn⟩ : ∃ MN, (if s < (if i < h then i else h) then s else (if i < h then i else h)) = MN := ⟨_, rfl⟩
  have x1 : MX ≤ 59 := by rw [← hmx]; (repeat' split) <;> omega
  have x2 : 0 ≤ MN := by rw [← hmn]; (repeat' split) <;> omega
  clear hr eT v
  go_enter Tryd.func26, Tryd.ntmps26
  go_wp2_with (first
    | (go_at_call 27; refine (days_good _ _ _ hd _).mono ?_; rintro e w1 ⟨rfl, rfl⟩)
    | (go_at_call 18; refine (of_good _ hok _).mono ?_; rintro e w2 ⟨rfl, hq2⟩; obtain ⟨k0, k1, k2, k3, k4, k5, kz⟩ := box6 hq2))
  go_ret2
  exact ⟨rfl, (Q.trans ((Q.refl w).alloc _) hq2).alloc _⟩
set_option maxHeartbeats 2000000 in
theorem time_bad (y m d h i s : Int) (hb1 : -9223372036854775808 ≤ h ∧ h ≤ 9223372036854775807) (hb2 : -9223372036854775808 ≤ i ∧ i ≤ 9223372036854775807) (hb3 : -9223372036854775808 ≤ s ∧ s ≤ 9223372036854775807) (g : ¬ Cal.Good y m d h i s) (w : World) :
    Calls Tryd.prog 26 #[.agg #[.int .i64 y, .int .i64 m, .int .i64 d, .int .i64 h, .int .i64 i, .int .i64 s]] w fun e w' => e = .returned (.tuple #[.int .i64 0, .int .i64 2]) ∧ Q w w' := by
  by_cases hd : Cal.Valid y m d
  · obtain ⟨MX, hmx⟩ : ∃ MX, (if (if h < i then i else h) < s then s else (if h < i then i else h)) = MX := ⟨_, rfl⟩
    obtain ⟨MN, hmn⟩ : ∃ MN, (if s < (if i < h then i else h) then s else (if i < h then i else h)) = MN := ⟨_, rfl⟩
    have x1 : MX ≤ 59 → h ≤ 59 ∧ i ≤ 59 ∧ s ≤ 59 := by rw [← hmx]; (repeat' split) <;> omega
    have x2 : 0 ≤ MN → 0 ≤ h ∧ 0 ≤ i ∧ 0 ≤ s := by rw [← hmn]; (repeat' split) <;> omega
    have hnr := Cal.num_range hd
    by_cases h1 : 59 < MX
    · clear x1 x2 g
      go_enter Tryd.func26, Tryd.ntmps26
      go_wp2_with (first
        | (go_at_call 27; refine (days_good _ _ _ hd _).mono ?_; rintro e w1 ⟨rfl, rfl⟩))
      go_ret2
      exact ⟨rfl, (Q.refl w).alloc _⟩
    by_cases h2 : MN < 0
    · have h1' : decide (59 < MX) = false := decide_eq_false h1
      clear x1 x2 g
      go_enter Tryd.func26, Tryd.ntmps26
      go_wp2_with (first
        | (go_at_call 27; refine (days_good _ _ _ hd _).mono ?_; rintro e w1 ⟨rfl, rfl⟩))
      go_ret2
      exact ⟨rfl, (Q.refl w).alloc _⟩
    have x1' := x1 (by omega)
    have x2' := x2 (by omega)
    have x3 : MX ≤ 59 := by omega
    have x4 : 0 ≤ MN := by omega
    have hlate : 24 ≤ h := by
      by_cases hc : h ≤ 23
      · exact absurd ⟨hd, by omega, hc, by omega, by omega, by omega, by omega⟩ g
      · omega
    clear x1 x2 g h1 h2
    obtain ⟨T, hT⟩ : ∃ T, Cal.num y m d * 86400 + (h * 3600 + i * 60 + s) = T := ⟨_, rfl⟩
    by_cases hok : Cal.timeOk T
    · have hcb := Cal.c_bd hok
      have hn := neq6 (Cal.cY T) (Cal.cM T) (Cal.cD T) (Cal.cH T) (Cal.cI T) (Cal.cS T) y m d h i s
      have hf : same6 (Cal.cY T) (Cal.cM T) (Cal.cD T) (Cal.cH T) (Cal.cI T) (Cal.cS T) y m d h i s = false := by
        rw [Bool.eq_false_iff]; intro hc
        have := (same6_iff ..).1 hc
        omega
      simp only [hf, Bool.not_false] at hn
      clear hf hcb
      go_enter Tryd.func26, Tryd.ntmps26
      go_wp2_with (first
        | (go_at_call 27; refine (days_good _ _ _ hd _).mono ?_; rintro e w1 ⟨rfl, rfl⟩)
        | (go_at_call 18; refine (of_good _ hok _).mono ?_; rintro e w2 ⟨rfl, hq2⟩; obtain ⟨k0, k1, k2, k3, k4, k5, kz⟩ := box6 hq2))
      go_ret2
      exact ⟨rfl, (Q.trans ((Q.refl w).alloc _) hq2).alloc _⟩
    · go_enter Tryd.func26, Tryd.ntmps26
      go_wp2_with (first
        | (go_at_call 27; refine (days_good _ _ _ hd _).mono ?_; rintro e w1 ⟨rfl, rfl⟩)
        | (go_at_call 18; refine (of_bad _ hok _).mono ?_; rintro e w2 ⟨rfl, hq2⟩; obtain ⟨k0, k1, k2, k3, k4, k5, kz⟩ := box6 hq2))
      go_ret2
      exact ⟨rfl, (Q.trans ((Q.refl w).alloc _) hq2).alloc _⟩
  · clear g
    go_enter Tryd.func26, Tryd.ntmps26
    go_wp2_with (first
      | (go_at_call 27; refine (days_bad _ _ _ hd _).mono ?_; rintro e w1 ⟨rfl, rfl⟩))
    go_ret2
    exact ⟨rfl, (Q.refl w).alloc _⟩
end Go.Proofs.YtdhlgmclogdplaaDoor
