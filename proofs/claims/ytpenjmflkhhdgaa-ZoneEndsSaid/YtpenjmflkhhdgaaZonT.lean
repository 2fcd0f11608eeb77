/- The walk of the law ZoneEnds. -/
import Derived.Test.YtpenjmflkhhdgaaZonM
import Derived.Outline
namespace Go.Proofs.Ytpenjmflkhhdgaa
open Go.RowKit
set_option linter.unusedVariables false
def endT : List (Int × Int × Int × Int) := [(0, 840, 0, 14), (0, -1, 14, 14), (60, -1, 0, 0), (59, -1, 14, 14), (253402300799, 0, 0, 0), (253402300799, 1, 14, 14), (253402300739, 1, 0, 0), (253402300799, -840, 0, 0), (-1, 841, 2, 2), (-1, 0, 14, 14), (253402300800, -840, 14, 14), (-9223372036854775808, -840, 14, 14), (9223372036854775807, 840, 14, 14), (0, 9223372036854775807, 2, 2)]
theorem endT_all : endT.all (fun r => decide (Zn.shE r.1 r.2.1 = r.2.2.1) && decide (Zn.midE r.1 r.2.1 = r.2.2.2)) = true := by decide
theorem qcell {W w1 : World} (hb : Q W w1) : (∀ b o, b < W.heap.size → w1.cell? ⟨b, o, none⟩ = W.cell? ⟨b, o, none⟩) ∧ (∀ b o, b < W.heap.size → w1.frozen? ⟨b, o, none⟩ = W.frozen? ⟨b, o, none⟩) :=
  ⟨fun b o h => hb.cell (p := ⟨b, o, none⟩) h, fun b o h => hb.frozen (p := ⟨b, o, none⟩) h⟩
/-- the rows of the table lie in block b -/
def EndsAt (wr : World) (b : Nat) : Prop := ∀ (k : Nat) (r : Int × Int × Int × Int), endT[k]? = some r → wr.cell? ⟨b, k * 4, none⟩ = some (.int .i64 r.1) ∧ wr.cell? ⟨b, k * 4 + 1, none⟩ = some (.int .i64 r.2.1) ∧ wr.cell? ⟨b, k * 4 + 2, none⟩ = some (.int .i64 r.2.2.1) ∧ wr.cell? ⟨b, k * 4 + 3, none⟩ = some (.int .i64 r.2.2.2)
theorem EndsAt.later {a b : World} {n : Nat} (h : EndsAt a n) (q : Q a b) (hn : n < a.heap.size) : EndsAt b n := by
  intro k r hk
  obtain ⟨h0, h1, h2, h3⟩ := h k r hk
  exact ⟨(q.cell (p := ⟨n, _, none⟩) hn).trans h0, (q.cell (p := ⟨n, _, none⟩) hn).trans h1, (q.cell (p := ⟨n, _, none⟩) hn).trans h2, (q.cell (p := ⟨n, _, none⟩) hn).trans h3⟩
theorem EndsAt.new (w : World) : EndsAt (w.alloc (.cells #[.int .i64 0, .int .i64 840, .int .i64 0, .int .i64 14, .int .i64 0, .int .i64 (-1), .int .i64 14, .int .i64 14, .int .i64 60, .int .i64 (-1), .int .i64 0, .int .i64 0, .int .i64 59, .int .i64 (-1), .int .i64 14, .int .i64 14, .int .i64 253402300799, .int .i64 0, .int .i64 0, .int .i64 0, .int .i64 253402300799, .int .i64 1, .int .i64 14, .int .i64 14, .int .i64 253402300739, .int .i64 1, .int .i64 0, .int .i64 0, .int .i64 253402300799, .int .i64 (-840), .int .i64 0, .int .i64 0, .int .i64 (-1), .int .i64 841, .int .i64 2, .int .i64 2, .int .i64 (-1), .int .i64 0, .int .i64 14, .int .i64 14, .int .i64 253402300800, .int .i64 (-840), .int .i64 14, .int .i64 14, .int .i64 (-9223372036854775808), .int .i64 (-840), .int .i64 14, .int .i64 14, .int .i64 9223372036854775807, .int .i64 840, .int .i64 14, .int .i64 14, .int .i64 0, .int .i64 9223372036854775807, .int .i64 2, .int .i64 2] 51)) w.heap.size := by
  intro k r hk
  by_cases hlt : k < 14
  · have : k = 0 ∨ k = 1 ∨ k = 2 ∨ k = 3 ∨ k = 4 ∨ k = 5 ∨ k = 6 ∨ k = 7 ∨ k = 8 ∨ k = 9 ∨ k = 10 ∨ k = 11 ∨ k = 12 ∨ k = 13 := by omega
    rcases this with rfl | rfl | rfl | rfl | rfl | rfl | rfl | rfl | rfl | rfl | rfl | rfl | rfl | rfl <;> (simp [endT] at hk; subst hk; simp)
  · rw [List.getElem?_eq_none (by simp [endT]; omega)] at hk; cases hk
theorem end_row (k : Nat) (h : k < 14) : ∃ T Z E F : Int, endT[k]? = some (T, Z, E, F) ∧ Zn.shE T Z = E ∧ Zn.midE T Z = F := by
  have hl : k < endT.length := by simpa [endT] using h
  refine ⟨_, _, _, _, List.getElem?_eq_getElem hl, ?_⟩
  have := List.all_eq_true.1 endT_all endT[k] (List.getElem_mem hl)
  simpa [Bool.and_eq_true] using this
def strT : List ByteArray := [⟨#[]⟩, ⟨#[45, 48, 48, 58, 48, 48]⟩, ⟨#[43, 53, 58, 51, 48]⟩, ⟨#[43, 49, 52, 58, 48, 49]⟩, ⟨#[43, 49, 53, 58, 48, 48]⟩, ⟨#[43, 48, 53, 58, 54, 48]⟩, ⟨#[48, 53, 58, 51, 48]⟩, ⟨#[43, 48, 53, 51, 48]⟩, ⟨#[32, 43, 48, 53, 58, 51, 48]⟩, ⟨#[43, 48, 53, 58, 51, 48, 32]⟩, ⟨#[43, 48, 53, 45, 51, 48]⟩, ⟨#[43, 48, 53, 58, 51, 97]⟩, ⟨#[43, 50, 52, 58, 48, 48]⟩]
theorem str_all : ((List.range 1681).all fun n => strT.all fun s => !(s.data.toList == (txt ((n : Int) - 840)).data.toList)) = true := by decide +kernel
theorem str_miss (s : ByteArray) (hs : s ∈ strT) (w : World) : Calls Try.prog 16 #[.string s] w fun e w' => e = .returned (.tuple #[.int .i64 0, .int .i64 10]) ∧ Q w w' := by
  refine parse_miss s (fun z hz e => ?_) w
  unfold Zn.zOk at hz
  have h1 := List.all_eq_true.1 str_all (z + 840).toNat (List.mem_range.2 (by omega))
  have h2 := List.all_eq_true.1 h1 s hs
  rw [show (((z + 840).toNat : Nat) : Int) - 840 = z by omega, ← e] at h2
  simp at h2
/-- the texts lie in block b -/
def StrAt (wr : World) (b : Nat) : Prop := ∀ (k : Nat) (s : ByteArray), strT[k]? = some s → wr.cell? ⟨b, k, none⟩ = some (.string s)
theorem StrAt.later {a b : World} {n : Nat} (h : StrAt a n) (q : Q a b) (hn : n < a.heap.size) : StrAt b n := by
  intro k s hk
  exact (q.cell (p := ⟨n, _, none⟩) hn).trans (h k s hk)
theorem StrAt.new (w : World) : StrAt (w.alloc (.cells #[.string ⟨#[]⟩, .string ⟨#[45, 48, 48, 58, 48, 48]⟩, .string ⟨#[43, 53, 58, 51, 48]⟩, .string ⟨#[43, 49, 52, 58, 48, 49]⟩, .string ⟨#[43, 49, 53, 58, 48, 48]⟩, .string ⟨#[43, 48, 53, 58, 54, 48]⟩, .string ⟨#[48, 53, 58, 51, 48]⟩, .string ⟨#[43, 48, 53, 51, 48]⟩, .string ⟨#[32, 43, 48, 53, 58, 51, 48]⟩, .string ⟨#[43, 48, 53, 58, 51, 48, 32]⟩, .string ⟨#[43, 48, 53, 45, 51, 48]⟩, .string ⟨#[43, 48, 53, 58, 51, 97]⟩, .string ⟨#[43, 50, 52, 58, 48, 48]⟩] 9)) w.heap.size := by
  intro k s hk
  by_cases hlt : k < 13
  · have : k = 0 ∨ k = 1 ∨ k = 2 ∨ k = 3 ∨ k = 4 ∨ k = 5 ∨ k = 6 ∨ k = 7 ∨ k = 8 ∨ k = 9 ∨ k = 10 ∨ k = 11 ∨ k = 12 := by omega
    rcases this with rfl | rfl | rfl | rfl | rfl | rfl | rfl | rfl | rfl | rfl | rfl | rfl | rfl <;> (simp [strT] at hk; subst hk; simp)
  · rw [List.getElem?_eq_none (by simp [strT]; omega)] at hk; cases hk
theorem str_row (k : Nat) (h : k < 13) : ∃ s, strT[k]? = some s ∧ s ∈ strT := by
  have hl : k < strT.length := by simpa [strT] using h
  exact ⟨_, List.getElem?_eq_getElem hl, List.getElem_mem hl⟩
theorem zb (y m d h i s z v e : Int) (hh : -9223372036854775808 ≤ h ∧ h ≤ 9223372036854775807) (hi : -9223372036854775808 ≤ i ∧ i ≤ 9223372036854775807) (hs : -9223372036854775808 ≤ s ∧ s ≤ 9223372036854775807) (hv : Zn.backV y m d h i s z = v) (he : Zn.backE y m d h i s z = e) (w : World) :
    Calls Try.prog 31 #[.agg #[.int .i64 y, .int .i64 m, .int .i64 d, .int .i64 h, .int .i64 i, .int .i64 s], .int .i64 z] w fun r w' => r = .returned (.tuple #[.int .i64 v, .int .i64 e]) ∧ Q w w' := by
  have := back_any y m d h i s z hh hi hs w
  rw [hv, he] at this; exact this
theorem zb1 (w : World) : Calls Try.prog 31 #[.agg #[.int .i64 1970, .int .i64 1, .int .i64 1, .int .i64 0, .int .i64 30, .int .i64 0], .int .i64 60] w fun r w' => r = .returned (.tuple #[.int .i64 0, .int .i64 14]) ∧ Q w w' := zb 1970 1 1 0 30 0 60 0 14 (by omega) (by omega) (by omega) (by decide) (by decide) w
theorem zb2 (w : World) : Calls Try.prog 31 #[.agg #[.int .i64 1970, .int .i64 2, .int .i64 30, .int .i64 0, .int .i64 0, .int .i64 0], .int .i64 60] w fun r w' => r = .returned (.tuple #[.int .i64 0, .int .i64 2]) ∧ Q w w' := zb 1970 2 30 0 0 0 60 0 2 (by omega) (by omega) (by omega) (by decide) (by decide) w
theorem zb3 (w : World) : Calls Try.prog 31 #[.agg #[.int .i64 0, .int .i64 0, .int .i64 0, .int .i64 0, .int .i64 0, .int .i64 0], .int .i64 841] w fun r w' => r = .returned (.tuple #[.int .i64 0, .int .i64 2]) ∧ Q w w' := zb 0 0 0 0 0 0 841 0 2 (by omega) (by omega) (by omega) (by decide) (by decide) w
theorem zb4 (w : World) : Calls Try.prog 31 #[.agg #[.int .i64 9999, .int .i64 12, .int .i64 31, .int .i64 23, .int .i64 59, .int .i64 59], .int .i64 840] w fun r w' => r = .returned (.tuple #[.int .i64 253402250399, .int .i64 0]) ∧ Q w w' := zb 9999 12 31 23 59 59 840 253402250399 0 (by omega) (by omega) (by omega) (by decide) (by decide) w
theorem zb5 (w : World) : Calls Try.prog 31 #[.agg #[.int .i64 9999, .int .i64 12, .int .i64 31, .int .i64 23, .int .i64 59, .int .i64 59], .int .i64 (-1)] w fun r w' => r = .returned (.tuple #[.int .i64 0, .int .i64 14]) ∧ Q w w' := zb 9999 12 31 23 59 59 (-1) 0 14 (by omega) (by omega) (by omega) (by decide) (by decide) w
set_option maxRecDepth 20000 in
set_option maxHeartbeats 4000000 in
theorem zoneEnds_walk (w : World) : Calls Try.prog 12 #[] w fun e w' => e = .returned (.bool true) ∧ Q w w' := by
  go_enter Try.func12, Try.ntmps12
  go_wp2_with fail
  go_loopw [42] (fun i wr => ∃ k : Nat, k ≤ 14 ∧ i = .int .i64 k ∧ Q w wr ∧ EndsAt wr w.heap.size ∧ w.heap.size < wr.heap.size) (fun i _ => 14 - (intOf i).toNat)
  case atStart => exact ⟨0, by omega, rfl, (Q.refl _).alloc _, EndsAt.new w, by simp⟩
  case round =>
    obtain ⟨k, hk, rfl, hq, he, hsz⟩ := hrel
    by_cases hlt : k < 14
    · obtain ⟨T, Z, E, F, hr, hE, hF⟩ := end_row k hlt
      obtain ⟨c0, c1, c2, c3⟩ := he k _ hr
      simp only at c0 c1 c2 c3
      clear hr
      by_cases hz : Zn.shOk T Z
      · have k1 := fun w2 => local_ok T Z hz w2
        have k2 := fun w2 => mid_any T Z w2
        have k3 := fun w2 => zweek_ok T Z hz w2
        have k4 := fun w2 => same_any T 0 Z w2
        have hE0 : Zn.shE T Z = 0 := by unfold Zn.shE; rw [if_pos hz.1, if_pos hz]
        rw [hE0] at hE
        subst hE
        rw [hF] at k2
        obtain ⟨MV, hMV⟩ : ∃ x, Zn.midV T Z = x := ⟨_, rfl⟩
        obtain ⟨SB, hSB⟩ : ∃ x, Zn.sameB T 0 Z = x := ⟨_, rfl⟩
        obtain ⟨SE, hSE⟩ : ∃ x, Zn.sameE T 0 Z = x := ⟨_, rfl⟩
        rw [hMV] at k2
        rw [hSB, hSE] at k4
        clear hF hMV hSB hSE hE0 hz
        go_wp2_with (first
          | (go_at_call 20; refine (k1 _).mono ?_; rintro e w1 ⟨rfl, hq1⟩; obtain ⟨x1, x2⟩ := qcell hq1; have hz1 : wr.heap.size < w1.heap.size := (by have := hq1.size; simp at this; omega))
          | (go_at_call 22; refine (k2 _).mono ?_; rintro e w2 ⟨rfl, rfl⟩)
          | (go_at_call 24; refine (k3 _).mono ?_; rintro e w3 ⟨rfl, rfl⟩)
          | (go_at_call 29; refine (k4 _).mono ?_; rintro e w4 ⟨rfl, hq4⟩; obtain ⟨x3, x4⟩ := qcell hq4; have hz4 : w1.heap.size < w4.heap.size := (by have := hq4.size; simp at this; omega)))
        go_roundw
        case rel =>
          have hq9 : Q wr w4 := by repeat (first | exact Q.refl _ | assumption | refine Q.alloc ?_ _ | refine Q.drew ?_ | refine Q.drewN ?_ _ | refine Q.trans ?_ (by assumption))
          exact ⟨k + 1, by omega, by go_num, hq.trans hq9, he.later hq9 hsz, by omega⟩
        case measure => simp [intOf]; omega
      · have hne := Zn.shE_ne hz
        rw [hE] at hne
        have hnb := bne_t hne
        have hnf := beq_f hne
        have k1 := fun w2 => local_err T Z hz w2
        have k2 := fun w2 => mid_any T Z w2
        have k3 := fun w2 => zweek_err T Z hz w2
        have k4 := fun w2 => same_any T 0 Z w2
        rw [hE] at k1 k3
        rw [hF] at k2
        rw [show Zn.sameE T 0 Z = E by unfold Zn.sameE; rw [if_neg hz, hE]] at k4
        obtain ⟨MV, hMV⟩ : ∃ x, Zn.midV T Z = x := ⟨_, rfl⟩
        obtain ⟨SB, hSB⟩ : ∃ x, Zn.sameB T 0 Z = x := ⟨_, rfl⟩
        rw [hMV] at k2
        rw [hSB] at k4
        clear hE hF hMV hSB hne
        go_wp2_with (first
          | (go_at_call 20; refine (k1 _).mono ?_; rintro e w1 ⟨rfl, hq1⟩; obtain ⟨x1, x2⟩ := qcell hq1; have hz1 : wr.heap.size < w1.heap.size := (by have := hq1.size; simp at this; omega))
          | (go_at_call 22; refine (k2 _).mono ?_; rintro e w2 ⟨rfl, rfl⟩)
          | (go_at_call 24; refine (k3 _).mono ?_; rintro e w3 ⟨rfl, rfl⟩)
          | (go_at_call 29; refine (k4 _).mono ?_; rintro e w4 ⟨rfl, hq4⟩; obtain ⟨x3, x4⟩ := qcell hq4; have hz4 : w1.heap.size < w4.heap.size := (by have := hq4.size; simp at this; omega)))
        go_roundw
        case rel =>
          have hq9 : Q wr w4 := by repeat (first | exact Q.refl _ | assumption | refine Q.alloc ?_ _ | refine Q.drew ?_ | refine Q.drewN ?_ _ | refine Q.trans ?_ (by assumption))
          exact ⟨k + 1, by omega, by go_num, hq.trans hq9, he.later hq9 hsz, by omega⟩
        case measure => simp [intOf]; omega
    · obtain rfl : k = 14 := by omega
      clear he
      obtain ⟨wo, rfl⟩ : ∃ wo : World, wo = wr := ⟨_, rfl⟩
      go_wp2_with fail
      go_loopw [108] (fun i wt => ∃ k : Nat, k ≤ 13 ∧ i = .int .i64 k ∧ Q wo wt ∧ StrAt wt wo.heap.size ∧ wo.heap.size < wt.heap.size) (fun i _ => 13 - (intOf i).toNat)
      case atStart => exact ⟨0, by omega, rfl, (Q.refl _).alloc _, StrAt.new wo, by simp⟩
      case round =>
        obtain ⟨k, hk2, rfl, hqt, he, hst⟩ := hrel
        by_cases hlt : k < 13
        · obtain ⟨S, hr, hm⟩ := str_row k hlt
          have c0 := he k _ hr
          have k5 := fun w2 => str_miss S hm w2
          clear hr hm
          go_wp2_with (go_at_call 16; refine (k5 _).mono ?_; rintro e w5 ⟨rfl, hq5⟩)
          go_roundw
          case rel =>
            (repeat apply Exists.intro)
            refine ⟨?_, rfl⟩
            exact ⟨k + 1, by omega, by go_num, hqt.trans hq5, he.later hq5 hst, by have := hq5.size; omega⟩
          case measure => simp [intOf]; omega
        · obtain rfl : k = 13 := by omega
          clear he
          go_wp2_with (first
            | (go_at_call 31; with_reducible refine (zb1 _).mono ?_; rintro e y1 ⟨rfl, hb1⟩)
            | (go_at_call 31; with_reducible refine (zb2 _).mono ?_; rintro e y2 ⟨rfl, hb2⟩)
            | (go_at_call 31; with_reducible refine (zb3 _).mono ?_; rintro e y3 ⟨rfl, hb3⟩)
            | (go_at_call 31; with_reducible refine (zb4 _).mono ?_; rintro e y4 ⟨rfl, hb4⟩)
            | (go_at_call 31; with_reducible refine (zb5 _).mono ?_; rintro e y5 ⟨rfl, hb5⟩)
            | (go_at_call 13; refine (works_any _).mono ?_; rintro e y9 ⟨rfl, hb9⟩))
          go_ret
          exact ⟨rfl, by repeat (first | exact Q.refl _ | assumption | refine Q.alloc ?_ _ | refine Q.drew ?_ | refine Q.drewN ?_ _ | refine Q.trans ?_ (by assumption))⟩
end Go.Proofs.Ytpenjmflkhhdgaa
