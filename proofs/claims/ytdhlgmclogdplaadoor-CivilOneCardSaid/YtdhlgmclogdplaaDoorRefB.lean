/- The contracts of the document's Days and Date. -/
import Derived.Test.YtdhlgmclogdplaaDoorRefA
namespace Go.Proofs.YtdhlgmclogdplaaDoor
open Go.RowKit
set_option linter.unusedVariables false
theorem rdays_good (y m d : Int) (h : Cal.Valid y m d) (w : World) :
    Calls Tryd.prog 30 #[.int .i64 y, .int .i64 m, .int .i64 d] w fun e w' => e = .returned (.tuple #[.int .i64 (Cal.num y m d), .int .i64 0]) ∧ Q w w' := by
  obtain ⟨v1, v2, v3, v4, v5, v6⟩ := h
  have b1 := Cal.dby_bd v1 (show y ≤ 10000 by omega)
  have b2 := Cal.dim_bd y m
  have b3 := Cal.cum_bd y m v3 (by omega)
  go_enter Tryd.func30, Tryd.ntmps30
  go_wp2_with (first
    | (go_at_call 29; refine (rlen_good _ _ (by omega) (by omega) _).mono ?_; rintro e w1 ⟨rfl, hq1⟩)
    | (go_at_call 36; refine (rbefore_any _ (by omega) _).mono ?_; rintro e w2 ⟨rfl, rfl⟩))
  go_loopw [10, 11] (fun vo vm wr => ∃ k : Int, 1 ≤ k ∧ k ≤ m ∧ vm = .int .i64 k ∧ vo = .int .i64 (Cal.dby y + Cal.cum y k) ∧ Q w wr) (fun _ vm _ => (m - intOf vm).toNat)
  case atStart => exact ⟨1, by omega, by omega, rfl, val_int (by rw [Cal.cum_1]; omega), hq1⟩
  case round =>
    obtain ⟨k, hk1, hk2, rfl, rfl, hq⟩ := hrel
    have c1 := Cal.dim_bd y k
    have c2 := Cal.cum_bd y k hk1 (by omega)
    by_cases hlt : k < m
    · have hs := Lib.hid (Cal.cum_succ y k hk1 (by omega))
      go_wp2_with (go_at_call 29; refine (rlen_good _ _ (by omega) (by omega) _).mono ?_; rintro e w3 ⟨rfl, hq3⟩)
      go_roundw
      case rel => exact ⟨k + 1, by omega, by omega, rfl, val_int (by rw [hs.out]; omega), hq.trans hq3⟩
      case measure => simp [intOf]; omega
    · obtain rfl : k = m := by omega
      go_wp2_with fail
      go_ret2
      exact ⟨ret_two (by unfold Cal.num; omega) rfl, hq⟩
theorem rdays_bad (y m d : Int) (h : ¬ Cal.Valid y m d) (w : World) :
    Calls Tryd.prog 30 #[.int .i64 y, .int .i64 m, .int .i64 d] w fun e w' => e = .returned (.tuple #[.int .i64 0, .int .i64 2]) ∧ Q w w' := by
  by_cases hr : 1970 ≤ y ∧ y ≤ 9999 ∧ 1 ≤ m ∧ m ≤ 12
  · by_cases h1 : d < 1
    · clear h
      go_enter Tryd.func30, Tryd.ntmps30
      go_wp2_with (go_at_call 29; refine (rlen_good _ _ (by omega) (by omega) _).mono ?_; rintro e w1 ⟨rfl, hq1⟩)
      go_ret2
      exact ⟨rfl, hq1⟩
    · have h2 : Cal.dim y m < d := by
        by_cases hd : d ≤ Cal.dim y m
        · exact absurd ⟨hr.1, hr.2.1, hr.2.2.1, hr.2.2.2, by omega, hd⟩ h
        · omega
      clear h
      go_enter Tryd.func30, Tryd.ntmps30
      go_wp2_with (go_at_call 29; refine (rlen_good _ _ (by omega) (by omega) _).mono ?_; rintro e w1 ⟨rfl, hq1⟩)
      go_ret2
      exact ⟨rfl, hq1⟩
  · clear h
    go_enter Tryd.func30, Tryd.ntmps30
    go_wp2_with (go_at_call 29; refine (rlen_bad _ _ (by omega) _).mono ?_; rintro e w1 ⟨rfl, hq1⟩)
    go_ret2
    exact ⟨rfl, hq1⟩
theorem rdate_bad (n : Int) (h : ¬ Cal.dayOk n) (w : World) :
    Calls Tryd.prog 16 #[.int .i64 n] w fun e w' => e = .returned (.tuple #[.int .i64 0, .int .i64 0, .int .i64 0, .int .i64 14]) ∧ Q w w' := by
  unfold Cal.dayOk at h
  by_cases h1 : n < 0
  · go_enter Tryd.func16, Tryd.ntmps16
    go_wp2
    exact bodyPost_ret (v := .tuple #[.int .i64 0, .int .i64 0, .int .i64 0, .int .i64 14]) (by simp [results, Tryd.results16, go_sem]) rfl ⟨rfl, Q.refl _⟩
  · have h2 : 2932896 < n := by omega
    go_enter Tryd.func16, Tryd.ntmps16
    go_wp2
    exact bodyPost_ret (v := .tuple #[.int .i64 0, .int .i64 0, .int .i64 0, .int .i64 14]) (by simp [results, Tryd.results16, go_sem]) rfl ⟨rfl, Q.refl _⟩
set_option maxHeartbeats 1000000 in
theorem rdate_good (n : Int) (h : Cal.dayOk n) (w : World) :
    Calls Tryd.prog 16 #[.int .i64 n] w fun e w' => e = .returned (.tuple #[.int .i64 (Cal.yr n), .int .i64 (Cal.mo n), .int .i64 (Cal.dy n), .int .i64 0]) ∧ Q w w' := by
  unfold Cal.dayOk at h
  have g0 := Cal.guess h.1 h.2
  go_enter Tryd.func16, Tryd.ntmps16
  go_wp2_with fail
  go_loopw [6] (fun t wr => ∃ y : Int, 1970 ≤ y ∧ y ≤ 9999 ∧ Cal.dby y ≤ n ∧ t = .int .i64 y ∧ Q w wr) (fun t _ => (9999 - intOf t).toNat)
  case atStart => exact ⟨_, by omega, by omega, g0, rfl, Q.refl _⟩
  case round =>
    obtain ⟨y, hy1, hy2, hy3, rfl, hq⟩ := hrel
    have hd := Cal.dby_bd (show 1970 ≤ y + 1 by omega) (by omega)
    have hd0 := Cal.dby_bd hy1 (by omega)
    by_cases hc : Cal.dby (y + 1) ≤ n
    · have hlt : y < 9999 := by
        by_cases e : y = 9999
        · subst e; have := Cal.dby_max; rw [show (9999 : Int) + 1 = 10000 from rfl] at hc; omega
        · omega
      go_wp2_with (go_at_call 36; refine (rbefore_any _ (by omega) _).mono ?_; rintro e w2 ⟨rfl, rfl⟩)
      go_roundw
      case rel => exact ⟨y + 1, by omega, by omega, hc, rfl, hq⟩
      case measure => simp [intOf]; omega
    · have hz : n < Cal.dby y + 365 + Cal.lp y := by have := Cal.dby_succ y; omega
      have hl := Cal.lp_bd y
      have hc' : n < Cal.dby (y + 1) := by omega
      clear hc g0
      go_wp2_with (go_at_call 36; refine (rbefore_any _ (by omega) _).mono ?_; rintro e w2 ⟨rfl, rfl⟩)
      go_loopw [7, 8] (fun vl vm wq => ∃ m : Int, 1 ≤ m ∧ m ≤ 12 ∧ vm = .int .i64 m ∧ 0 ≤ n - Cal.dby y - Cal.cum y m ∧ vl = .int .i64 (n - Cal.dby y - Cal.cum y m) ∧ Q w wq) (fun _ vm _ => (12 - intOf vm).toNat)
      case atStart => exact ⟨1, by omega, by omega, rfl, by rw [Cal.cum_1]; omega, val_int (by rw [Cal.cum_1]; omega), hq⟩
      case round =>
        obtain ⟨m, hm1, hm2, rfl, hl0, rfl, hq'⟩ := hrel
        have cb := Cal.cum_bd y m hm1 (by omega)
        have db := Cal.dim_bd y m
        have cs := Cal.cum_succ y m hm1 hm2
        by_cases hv : n - Cal.dby y - Cal.cum y m < Cal.dim y m
        · have hval : Cal.Valid y m (n - Cal.dby y - Cal.cum y m + 1) := ⟨hy1, hy2, hm1, hm2, by omega, by omega⟩
          have hu := Cal.date_uniq (n := n) hval (by unfold Cal.num; omega)
          have HU := Lib.hid hu
          clear hu hval cs
          go_wp2_with (go_at_call 29; refine (rlen_good _ _ (by omega) (by omega) _).mono ?_; rintro e w3 ⟨rfl, hq3⟩)
          refine bodyPost_ret (v := .tuple #[.int .i64 y, .int .i64 m, .int .i64 (n - Cal.dby y - Cal.cum y m + 1), .int .i64 0]) (by simp [results, Tryd.results16, go_sem]) rfl ⟨?_, hq'.trans hq3⟩
          rw [← HU.out.1, ← HU.out.2.1, ← HU.out.2.2]
        · have hlt : m < 12 := by
            by_cases e : m = 12
            · subst e
              have := Cal.cum_13 y
              rw [show (12 : Int) + 1 = 13 from rfl] at cs
              omega
            · omega
          have CS := Lib.hid cs; clear cs
          go_wp2_with (go_at_call 29; refine (rlen_good _ _ (by omega) (by omega) _).mono ?_; rintro e w3 ⟨rfl, hq3⟩)
          go_roundw
          case rel => exact ⟨m + 1, by omega, by omega, rfl, by rw [CS.out]; omega, val_int (by rw [CS.out]; omega), hq'.trans hq3⟩
          case measure => simp [intOf]; omega
end Go.Proofs.YtdhlgmclogdplaaDoor
