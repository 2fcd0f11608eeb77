/- The contract of wheel.first. -/
import Derived.Test.YtnmgcjkffeeapaaDoorWhI
import Derived.Test.YtnmgcjkffeeapaaDoorTzA
namespace Go.Proofs.YtnmgcjkffeeapaaDoor
open Go.RowKit
set_option linter.unusedVariables false
set_option linter.unusedSimpArgs false
theorem or_low {a s : Nat} (hs : s < 64) (ha : a < 1099511627776) : bits .or .i64 ((a : Int) * 64) (s : Int) = (a : Int) * 64 + (s : Int) := by
  have e1 : (a : Int) * 64 = ((a * 64 : Nat) : Int) := by omega
  rw [e1]
  show IntKind.i64.wrap ((BitVec.ofInt 64 ((a * 64 : Nat) : Int) ||| BitVec.ofInt 64 (s : Int)).toNat : Nat) = _
  have e2 : (BitVec.ofInt 64 ((a * 64 : Nat) : Int) ||| BitVec.ofInt 64 (s : Int)).toNat = a * 64 + s := by
    rw [ofInt_nat, ofInt_nat, BitVec.toNat_or, BitVec.toNat_ofNat, BitVec.toNat_ofNat, Nat.mod_eq_of_lt (by omega), Nat.mod_eq_of_lt (by omega)]
    have := Nat.two_pow_add_eq_or_of_lt (i := 6) (b := s) hs a
    rw [Nat.mul_comm a 64]
    exact this.symm
  rw [e2, IntKind.wrap_i64]
  omega
theorem low_empty {t : Nat → Nat} {f : Nat} {S : Nat → Bool} {rows : Nat → List Nat} (h : Whp.WInv t f S rows) (k s : Nat) (hk : (k = 0 ∧ s < f % 64) ∨ (k = 1 ∧ s < f / 64 % 64) ∨ (k = 2 ∧ s < f / 4096 % 64) ∨ (k = 3 ∧ s < f / 262144 % 64)) : rows (64 * k + s) = [] := by
  rw [List.eq_nil_iff_forall_not_mem]
  intro i hi
  obtain ⟨h1, h2⟩ := ((h.1 (64 * k + s)).2 i).1 hi
  have h2' : Whp.loc (t i) f = 64 * k + s := h2
  clear h2
  have h3 := h.2 i h1
  obtain ⟨q1, q2, q3⟩ := Whp.qs (t i)
  obtain ⟨p1, p2, p3⟩ := Whp.qs f
  rcases Whp.loc_cases (t i) f with ⟨g1, g2⟩ | ⟨g0, g1, g2⟩ | ⟨g0, g1, g2⟩ | ⟨g0, g1, g2⟩ | ⟨g1, g2⟩ <;> omega
/-- what first finds -/
def First (t : Nat → Nat) (f : Nat) (rows : Nat → List Nat) (w : World) (a b c : Int) (d : Bool) (w' : World) : Prop := Q w w' ∧
  ((d = true ∧ ∃ j : Nat, j < 256 ∧ rows j ≠ [] ∧ (∀ k, k < j → rows k = []) ∧ a = ((j / 64 : Nat) : Int) ∧ b = ((j % 64 : Nat) : Int) ∧ c = ((Whp.beg j f : Nat) : Int)) ∨
   (d = true ∧ (∀ k, k < 256 → rows k = []) ∧ a = 4 ∧ b = 0 ∧ ∃ m : Nat, m ∈ rows 256 ∧ (∀ x ∈ rows 256, t m ≤ t x) ∧ c = ((t m / 16777216 * 16777216 : Nat) : Int)) ∨
   (d = false ∧ ∀ k, k < 257 → rows k = []))
/-- the levels below have been looked at -/
def FsR (rows : Nat → List Nat) (w : World) (a : Value) (wr : World) : Prop := Q w wr ∧ ((a = .int .i64 0) ∨ (a = .int .i64 1 ∧ ∀ j, j < 64 → rows j = []) ∨ (a = .int .i64 2 ∧ ∀ j, j < 128 → rows j = []) ∨ (a = .int .i64 3 ∧ ∀ j, j < 192 → rows j = []) ∨ (a = .int .i64 4 ∧ ∀ j, j < 256 → rows j = []))
/-- a level: nothing there, or the first row -/
theorem level_no {us : Nat → Nat} {rows : Nat → List Nat} (h : UsOk us rows) {k s0 : Nat} (hk : k < 4) (hlow : ∀ s, s < s0 → rows (64 * k + s) = []) (hz : us k / 2 ^ s0 * 2 ^ s0 = 0) : ∀ s, s < 64 → rows (64 * k + s) = [] := by
  intro s hs
  by_cases e : s < s0
  · exact hlow s e
  · have h1 := (nx_spec (s := us k) (f := s0) (h k hk).1).1 hz s (by omega)
    have h2 := (h k hk).2 s hs
    rw [h1] at h2
    simpa using h2.symm
theorem level_yes {us : Nat → Nat} {rows : Nat → List Nat} (h : UsOk us rows) {k s0 : Nat} (hk : k < 4) (hlow : ∀ s, s < s0 → rows (64 * k + s) = []) (hz : 0 < us k / 2 ^ s0 * 2 ^ s0) : tz (us k / 2 ^ s0 * 2 ^ s0) < 64 ∧ rows (64 * k + tz (us k / 2 ^ s0 * 2 ^ s0)) ≠ [] ∧ ∀ s, s < tz (us k / 2 ^ s0 * 2 ^ s0) → rows (64 * k + s) = [] := by
  obtain ⟨a1, a2, a3, a4⟩ := (nx_spec (s := us k) (f := s0) (h k hk).1).2 hz
  refine ⟨a2, fun e => ?_, fun s hs => ?_⟩
  · have := (h k hk).2 _ a2
    rw [a3, e] at this
    simp at this
  · by_cases e : s < s0
    · exact hlow s e
    · have h1 := a4 s (by omega) hs
      have h2 := (h k hk).2 s (by omega)
      rw [h1] at h2
      simpa using h2.symm
theorem lev_join {rows : Nat → List Nat} (k : Nat) (h1 : ∀ j, j < 64 * k → rows j = []) (h2 : ∀ s, s < 64 → rows (64 * k + s) = []) : ∀ j, j < 64 * k + 64 → rows j = [] := by
  intro j hj
  by_cases e : j < 64 * k
  · exact h1 j e
  · have := h2 (j - 64 * k) (by omega)
    rwa [show 64 * k + (j - 64 * k) = j from by omega] at this
set_option maxRecDepth 100000 in
set_option maxHeartbeats 4000000 in
theorem first_wk {F : Nat → Prop} {W A M n now f seq : Nat} {T t : Nat → Nat} {idf : Nat → Int} {S : Nat → Bool} {rows : Nat → List Nat} {w : World} (h : Wl F W A M n T t idf now f seq rows w) (hT : Tab w) (hI : Whp.WInv t f S rows) (hn : n ≤ 60) (ht : ∀ i, i < n → t i < 1099511627776) (hf : f < 1099511627776) :
    Calls Tryd.prog 22 #[.pointer (some ⟨W, 0, none⟩)] w fun e w' => ∃ a b c d, e = .returned (.tuple #[.int .i64 a, .int .i64 b, .int .i64 c, .bool d]) ∧ First t f rows w a b c d w' := by
  obtain ⟨vs, us, h1, h2, h3, h4⟩ := h
  have H1 := Lib.hid h1
  have H2 := Lib.hid h2
  have HU := Lib.hid h3
  have H4 := Lib.hid h4
  have HTab := Lib.hid hT
  have HI := Lib.hid hI
  have HB := Lib.hid hf
  have HTT := Lib.hid ht
  have HN60 := Lib.hid hn
  have y1 : (0 : Int) ≤ (f : Int) ∧ (f : Int) < 1099511627776 := by omega
  have HR : Hid (FsR rows w (.int .i64 0) w) := Lib.hid ⟨Q.refl _, .inl rfl⟩
  clear h1 h2 h3 h4 hT hI hf ht hn
  go_enter Tryd.func22, Tryd.ntmps22
  go_wp2_with fail
  go_loopw [11] (fun a wr => FsR rows w a wr) (fun a _ => 4 - (intOf a).toNat)
  case atStart => exact HR.out
  case round =>
    clear HR
    obtain ⟨hq, hc⟩ := hrel
    have hw := H1.out.fp (G := fun _ => False) (Fp.ofQ hq) id
    have HQ := Lib.hid hq
    have c1 := hw.c1
    clear hq
    rcases hc with rfl | ⟨rfl, hpp⟩ | ⟨rfl, hpp⟩ | ⟨rfl, hpp⟩ | ⟨rfl, hpp⟩
    · have hpre : ∀ j, j < 0 → rows j = [] := fun j hj => absurd hj (by omega)
      have hlow : ∀ s, s < f % 64 → rows (64 * 0 + s) = [] := fun s hs => low_empty HI.out 0 s (.inl ⟨rfl, hs⟩)
      obtain ⟨s0, hs0⟩ : ∃ s0, f % 64 = s0 := ⟨_, rfl⟩
      have hs63 : s0 ≤ 63 := by omega
      have kx := fun w2 => ix_0 f w2 HB.out
      rw [hs0] at hlow kx
      have cu := hw.cu 0 (by omega)
      have hu64 := (HU.out 0 (by omega)).1
      by_cases hz : us 0 / 2 ^ s0 * 2 ^ s0 = 0
      · have HL := Lib.hid (level_no HU.out (k := 0) (by omega) hlow hz)
        have kn := fun w2 => nx_no (us 0) s0 w2 hu64 hs63 hz
        have HPRE := Lib.hid hpre
        clear hw hlow hz hu64 hpre hs0
        generalize us 0 = u at *
        go_wp2_with fail
        go_quiet ((first | (go_at_call 30; exact Calls.quiet_of_same ((kx _).mono fun _ _ h => ⟨h.1, h.2.symm⟩)) | (go_at_call 33; exact Calls.quiet_of_same ((kn _).mono fun _ _ h => ⟨h.1, h.2.symm⟩))))
        go_wp2_with fail
        go_roundw
        case rel => exact ⟨HQ.out.trans ((Q.refl wr).drewN nq), .inr (.inl ⟨rfl, lev_join 0 HPRE.out HL.out⟩)⟩
        case measure => simp [intOf]
      · obtain ⟨g1, g2, g3⟩ := level_yes HU.out (k := 0) (by omega) hlow (by omega)
        have kn := fun (w2 : World) (hT : Tab w2) => nx_yes (us 0) s0 w2 hT hu64 hs63 (by omega)
        have kn' := fun m => kn (wr.drewN m) (HTab.out.later (HQ.out.trans ((Q.refl wr).drewN m)))
        have HPRE := Lib.hid hpre
        generalize tz (us 0 / 2 ^ s0 * 2 ^ s0) = s at *
        have G2 := Lib.hid g2
        have G3 := Lib.hid g3
        have ho := or_low (a := f / 64) g1 (by omega)
        rw [show ((f / 64 : Nat) : Int) = (f : Int) / 64 from by omega] at ho
        have y3 : (0 : Int) ≤ (s : Int) ∧ (s : Int) < 64 := by omega
        have c1 := hw.c1
        clear hw hlow hz hu64 hpre hs0 g2 g3 kn
        generalize us 0 = u at *
        go_wp2_with fail
        go_quiet ((first | (go_at_call 30; exact Calls.quiet_of_same ((kx _).mono fun _ _ h => ⟨h.1, h.2.symm⟩)) | (go_at_call 33; exact Calls.quiet_of_same ((kn' _).mono fun _ _ h => ⟨h.1, h.2.symm⟩))))
        revert nq
        intro m1
        go_wp2_with fail
        go_quiet (fail)
        go_wp2_with fail
        refine bodyPost_ret (v := .tuple #[.int .i64 0, .int .i64 (s : Int), .int .i64 ((f : Int) / 64 * 64 + (s : Int)), .bool true]) (by simp [results, Tryd.results22, go_sem]) rfl ⟨0, (s : Int), (f : Int) / 64 * 64 + (s : Int), true, rfl, HQ.out.trans (by repeat (first | exact Q.refl _ | refine Q.drew ?_ | refine Q.drewN ?_ _)), .inl ⟨rfl, 64 * 0 + s, by omega, G2.out, fun j hj => ?_, by omega, by omega, ?_⟩⟩
        · by_cases e : j < 64 * 0
          · exact HPRE.out j e
          · have := G3.out (j - 64 * 0) (by omega)
            rwa [show 64 * 0 + (j - 64 * 0) = j from by omega] at this
        · rw [Whp.beg1 (by omega)]; omega
    · have hpre : ∀ j, j < 64 → rows j = [] := hpp
      have hlow : ∀ s, s < f / 64 % 64 → rows (64 * 1 + s) = [] := fun s hs => low_empty HI.out 1 s (.inr (.inl ⟨rfl, hs⟩))
      obtain ⟨s0, hs0⟩ : ∃ s0, f / 64 % 64 = s0 := ⟨_, rfl⟩
      have hs63 : s0 ≤ 63 := by omega
      have kx := fun w2 => ix_1 f w2 HB.out
      rw [hs0] at hlow kx
      have cu := hw.cu 1 (by omega)
      have hu64 := (HU.out 1 (by omega)).1
      by_cases hz : us 1 / 2 ^ s0 * 2 ^ s0 = 0
      · have HL := Lib.hid (level_no HU.out (k := 1) (by omega) hlow hz)
        have kn := fun w2 => nx_no (us 1) s0 w2 hu64 hs63 hz
        have HPRE := Lib.hid hpre
        clear hw hlow hz hu64 hpre hs0
        generalize us 1 = u at *
        go_wp2_with fail
        go_quiet ((first | (go_at_call 30; exact Calls.quiet_of_same ((kx _).mono fun _ _ h => ⟨h.1, h.2.symm⟩)) | (go_at_call 33; exact Calls.quiet_of_same ((kn _).mono fun _ _ h => ⟨h.1, h.2.symm⟩))))
        go_wp2_with fail
        go_roundw
        case rel => exact ⟨HQ.out.trans ((Q.refl wr).drewN nq), .inr (.inr (.inl ⟨rfl, lev_join 1 HPRE.out HL.out⟩))⟩
        case measure => simp [intOf]
      · obtain ⟨g1, g2, g3⟩ := level_yes HU.out (k := 1) (by omega) hlow (by omega)
        have kn := fun (w2 : World) (hT : Tab w2) => nx_yes (us 1) s0 w2 hT hu64 hs63 (by omega)
        have kn' := fun m => kn (wr.drewN m) (HTab.out.later (HQ.out.trans ((Q.refl wr).drewN m)))
        have HPRE := Lib.hid hpre
        generalize tz (us 1 / 2 ^ s0 * 2 ^ s0) = s at *
        have G2 := Lib.hid g2
        have G3 := Lib.hid g3
        have ho := or_low (a := f / 4096) g1 (by omega)
        rw [show ((f / 4096 : Nat) : Int) = (f : Int) / 4096 from by omega] at ho
        have y3 : (0 : Int) ≤ (s : Int) ∧ (s : Int) < 64 := by omega
        have c1 := hw.c1
        clear hw hlow hz hu64 hpre hs0 g2 g3 kn
        generalize us 1 = u at *
        go_wp2_with fail
        go_quiet ((first | (go_at_call 30; exact Calls.quiet_of_same ((kx _).mono fun _ _ h => ⟨h.1, h.2.symm⟩)) | (go_at_call 33; exact Calls.quiet_of_same ((kn' _).mono fun _ _ h => ⟨h.1, h.2.symm⟩))))
        revert nq
        intro m1
        go_wp2_with fail
        go_quiet (fail)
        go_wp2_with fail
        refine bodyPost_ret (v := .tuple #[.int .i64 1, .int .i64 (s : Int), .int .i64 (((f : Int) / 4096 * 64 + (s : Int)) * 64), .bool true]) (by simp [results, Tryd.results22, go_sem]) rfl ⟨1, (s : Int), ((f : Int) / 4096 * 64 + (s : Int)) * 64, true, rfl, HQ.out.trans (by repeat (first | exact Q.refl _ | refine Q.drew ?_ | refine Q.drewN ?_ _)), .inl ⟨rfl, 64 * 1 + s, by omega, G2.out, fun j hj => ?_, by omega, by omega, ?_⟩⟩
        · by_cases e : j < 64 * 1
          · exact HPRE.out j e
          · have := G3.out (j - 64 * 1) (by omega)
            rwa [show 64 * 1 + (j - 64 * 1) = j from by omega] at this
        · rw [Whp.beg2 (by omega) (by omega)]; omega
    · have hpre : ∀ j, j < 128 → rows j = [] := hpp
      have hlow : ∀ s, s < f / 4096 % 64 → rows (64 * 2 + s) = [] := fun s hs => low_empty HI.out 2 s (.inr (.inr (.inl ⟨rfl, hs⟩)))
      obtain ⟨s0, hs0⟩ : ∃ s0, f / 4096 % 64 = s0 := ⟨_, rfl⟩
      have hs63 : s0 ≤ 63 := by omega
      have kx := fun w2 => ix_2 f w2 HB.out
      rw [hs0] at hlow kx
      have cu := hw.cu 2 (by omega)
      have hu64 := (HU.out 2 (by omega)).1
      by_cases hz : us 2 / 2 ^ s0 * 2 ^ s0 = 0
      · have HL := Lib.hid (level_no HU.out (k := 2) (by omega) hlow hz)
        have kn := fun w2 => nx_no (us 2) s0 w2 hu64 hs63 hz
        have HPRE := Lib.hid hpre
        clear hw hlow hz hu64 hpre hs0
        generalize us 2 = u at *
        go_wp2_with fail
        go_quiet ((first | (go_at_call 30; exact Calls.quiet_of_same ((kx _).mono fun _ _ h => ⟨h.1, h.2.symm⟩)) | (go_at_call 33; exact Calls.quiet_of_same ((kn _).mono fun _ _ h => ⟨h.1, h.2.symm⟩))))
        go_wp2_with fail
        go_roundw
        case rel => exact ⟨HQ.out.trans ((Q.refl wr).drewN nq), .inr (.inr (.inr (.inl ⟨rfl, lev_join 2 HPRE.out HL.out⟩)))⟩
        case measure => simp [intOf]
      · obtain ⟨g1, g2, g3⟩ := level_yes HU.out (k := 2) (by omega) hlow (by omega)
        have kn := fun (w2 : World) (hT : Tab w2) => nx_yes (us 2) s0 w2 hT hu64 hs63 (by omega)
        have kn' := fun m => kn (wr.drewN m) (HTab.out.later (HQ.out.trans ((Q.refl wr).drewN m)))
        have HPRE := Lib.hid hpre
        generalize tz (us 2 / 2 ^ s0 * 2 ^ s0) = s at *
        have G2 := Lib.hid g2
        have G3 := Lib.hid g3
        have ho := or_low (a := f / 262144) g1 (by omega)
        rw [show ((f / 262144 : Nat) : Int) = (f : Int) / 262144 from by omega] at ho
        have y3 : (0 : Int) ≤ (s : Int) ∧ (s : Int) < 64 := by omega
        have c1 := hw.c1
        clear hw hlow hz hu64 hpre hs0 g2 g3 kn
        generalize us 2 = u at *
        go_wp2_with fail
        go_quiet ((first | (go_at_call 30; exact Calls.quiet_of_same ((kx _).mono fun _ _ h => ⟨h.1, h.2.symm⟩)) | (go_at_call 33; exact Calls.quiet_of_same ((kn' _).mono fun _ _ h => ⟨h.1, h.2.symm⟩))))
        revert nq
        intro m1
        go_wp2_with fail
        go_quiet (fail)
        go_wp2_with fail
        refine bodyPost_ret (v := .tuple #[.int .i64 2, .int .i64 (s : Int), .int .i64 (((f : Int) / 262144 * 64 + (s : Int)) * 4096), .bool true]) (by simp [results, Tryd.results22, go_sem]) rfl ⟨2, (s : Int), ((f : Int) / 262144 * 64 + (s : Int)) * 4096, true, rfl, HQ.out.trans (by repeat (first | exact Q.refl _ | refine Q.drew ?_ | refine Q.drewN ?_ _)), .inl ⟨rfl, 64 * 2 + s, by omega, G2.out, fun j hj => ?_, by omega, by omega, ?_⟩⟩
        · by_cases e : j < 64 * 2
          · exact HPRE.out j e
          · have := G3.out (j - 64 * 2) (by omega)
            rwa [show 64 * 2 + (j - 64 * 2) = j from by omega] at this
        · rw [Whp.beg3 (by omega) (by omega)]; omega
    · have hpre : ∀ j, j < 192 → rows j = [] := hpp
      have hlow : ∀ s, s < f / 262144 % 64 → rows (64 * 3 + s) = [] := fun s hs => low_empty HI.out 3 s (.inr (.inr (.inr ⟨rfl, hs⟩)))
      obtain ⟨s0, hs0⟩ : ∃ s0, f / 262144 % 64 = s0 := ⟨_, rfl⟩
      have hs63 : s0 ≤ 63 := by omega
      have kx := fun w2 => ix_3 f w2 HB.out
      rw [hs0] at hlow kx
      have cu := hw.cu 3 (by omega)
      have hu64 := (HU.out 3 (by omega)).1
      by_cases hz : us 3 / 2 ^ s0 * 2 ^ s0 = 0
      · have HL := Lib.hid (level_no HU.out (k := 3) (by omega) hlow hz)
        have kn := fun w2 => nx_no (us 3) s0 w2 hu64 hs63 hz
        have HPRE := Lib.hid hpre
        clear hw hlow hz hu64 hpre hs0
        generalize us 3 = u at *
        go_wp2_with fail
        go_quiet ((first | (go_at_call 30; exact Calls.quiet_of_same ((kx _).mono fun _ _ h => ⟨h.1, h.2.symm⟩)) | (go_at_call 33; exact Calls.quiet_of_same ((kn _).mono fun _ _ h => ⟨h.1, h.2.symm⟩))))
        go_wp2_with fail
        go_roundw
        case rel => exact ⟨HQ.out.trans ((Q.refl wr).drewN nq), .inr (.inr (.inr (.inr ⟨rfl, lev_join 3 HPRE.out HL.out⟩)))⟩
        case measure => simp [intOf]
      · obtain ⟨g1, g2, g3⟩ := level_yes HU.out (k := 3) (by omega) hlow (by omega)
        have kn := fun (w2 : World) (hT : Tab w2) => nx_yes (us 3) s0 w2 hT hu64 hs63 (by omega)
        have kn' := fun m => kn (wr.drewN m) (HTab.out.later (HQ.out.trans ((Q.refl wr).drewN m)))
        have HPRE := Lib.hid hpre
        generalize tz (us 3 / 2 ^ s0 * 2 ^ s0) = s at *
        have G2 := Lib.hid g2
        have G3 := Lib.hid g3
        have ho := or_low (a := f / 16777216) g1 (by omega)
        rw [show ((f / 16777216 : Nat) : Int) = (f : Int) / 16777216 from by omega] at ho
        have y3 : (0 : Int) ≤ (s : Int) ∧ (s : Int) < 64 := by omega
        have c1 := hw.c1
        clear hw hlow hz hu64 hpre hs0 g2 g3 kn
        generalize us 3 = u at *
        go_wp2_with fail
        go_quiet ((first | (go_at_call 30; exact Calls.quiet_of_same ((kx _).mono fun _ _ h => ⟨h.1, h.2.symm⟩)) | (go_at_call 33; exact Calls.quiet_of_same ((kn' _).mono fun _ _ h => ⟨h.1, h.2.symm⟩))))
        revert nq
        intro m1
        go_wp2_with fail
        go_quiet (fail)
        go_wp2_with fail
        refine bodyPost_ret (v := .tuple #[.int .i64 3, .int .i64 (s : Int), .int .i64 (((f : Int) / 16777216 * 64 + (s : Int)) * 262144), .bool true]) (by simp [results, Tryd.results22, go_sem]) rfl ⟨3, (s : Int), ((f : Int) / 16777216 * 64 + (s : Int)) * 262144, true, rfl, HQ.out.trans (by repeat (first | exact Q.refl _ | refine Q.drew ?_ | refine Q.drewN ?_ _)), .inl ⟨rfl, 64 * 3 + s, by omega, G2.out, fun j hj => ?_, by omega, by omega, ?_⟩⟩
        · by_cases e : j < 64 * 3
          · exact HPRE.out j e
          · have := G3.out (j - 64 * 3) (by omega)
            rwa [show 64 * 3 + (j - 64 * 3) = j from by omega] at this
        · rw [Whp.beg4 (by omega)]; omega
    · have cr := hw.cr 256 (by omega)
      rw [show off 256 = 265 from rfl] at cr
      have hown := (Fp.ofQ (F := fun _ => False) HQ.out).owns (H2.out.ow 256 (by omega)) (fun _ _ => id)
      obtain ⟨v, hv⟩ : ∃ v, vs 256 = v := ⟨_, rfl⟩
      rw [hv] at cr hown
      have hcap := hown.2
      have HPP := Lib.hid hpp
      by_cases h0 : (rows 256).length = 0
      · have HE : Hid (rows 256 = []) := Lib.hid (List.length_eq_zero_iff.1 h0)
        have hlen : ∃ a c, v = .slice a 0 c := by
          rcases hcap with ⟨q, _⟩ | ⟨g, cap, cur, q, _⟩
          · exact ⟨_, _, q⟩
          · rw [h0] at q; exact ⟨_, _, q⟩
        obtain ⟨ad, cc, rfl⟩ := hlen
        clear hown hcap h0 hv hw
        go_wp2_with fail
        refine bodyPost_ret (v := .tuple #[.int .i64 0, .int .i64 0, .int .i64 0, .bool false]) (by simp [results, Tryd.results22, go_sem]) rfl ⟨0, 0, 0, false, rfl, HQ.out, .inr (.inr ⟨rfl, fun k hk => ?_⟩)⟩
        by_cases e : k < 256
        · exact HPP.out k e
        · obtain rfl : k = 256 := by omega
          exact HE.out
      · have hgc : ∃ g cap, v = .slice (some ⟨g, 0, none⟩) (rows 256).length cap := by
          rcases hcap with ⟨_, q⟩ | ⟨g, cap, cur, q, _⟩
          · exact absurd q h0
          · exact ⟨g, cap, q⟩
        obtain ⟨g, cap, rfl⟩ := hgc
        have hN60 : (rows 256).length ≤ 60 := Nat.le_trans (nodup_le n _ (HI.out.1 256).1 (H4.out 256)) HN60.out
        have km := min_ok T t idf n (rows 256) g cap wr hown (H4.out 256) (by omega) hN60 (fun i hi => (H2.out.tm i hi).q HQ.out)
        have HMM : Hid (∀ i, i ∈ rows 256 → i < n) := Lib.hid (H4.out 256)
        have z1 : ((((rows 256).length : Nat) : Int) == 0) = false := beq_f (by omega)
        obtain ⟨N, hN⟩ : ∃ N, (rows 256).length = N := ⟨_, rfl⟩
        have HN := Lib.hid hN
        rw [hN] at z1 cr km
        clear hown hcap h0 hv hw hN hN60
        go_wp2_with (go_at_call 34; (with_reducible refine km.mono ?_); rintro e w2 ⟨m, rfl, hm, hle, hq2⟩; have HM := Lib.hid hm; have HLE := Lib.hid hle; have x0 := ((H2.out.tm m (HMM.out m hm)).q (HQ.out.trans hq2)).c0; have ym : (0 : Int) ≤ (t m : Int) ∧ (t m : Int) < 1099511627776 := (by have := HTT.out m (HMM.out m hm); omega); clear hm hle)
        go_quiet (fail)
        go_wp2_with fail
        refine bodyPost_ret (v := .tuple #[.int .i64 4, .int .i64 0, .int .i64 ((t m : Int) / 16777216 * 16777216), .bool true]) (by simp [results, Tryd.results22, go_sem]) rfl ⟨4, 0, (t m : Int) / 16777216 * 16777216, true, rfl, (HQ.out.trans hq2).trans (by repeat (first | exact Q.refl _ | refine Q.drew ?_ | refine Q.drewN ?_ _)), .inr (.inl ⟨rfl, HPP.out, rfl, rfl, m, HM.out, HLE.out, by omega⟩)⟩
end Go.Proofs.YtnmgcjkffeeapaaDoor

