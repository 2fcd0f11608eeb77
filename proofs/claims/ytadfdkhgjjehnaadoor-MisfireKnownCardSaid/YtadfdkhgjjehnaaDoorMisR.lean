/- The contract of the program's Parse. -/
import Derived.Test.YtadfdkhgjjehnaaDoorMisQ
import Derived.Test.YtadfdkhgjjehnaaDoorShelfB
import Derived.Laws.EntriesVeiled
namespace Go.Proofs.YtadfdkhgjjehnaaDoor
open Go.RowKit
set_option linter.unusedVariables false
set_option linter.unusedSimpArgs false
/-- a cell holds nil, or an error -/
def ErrAt (g : Nat) (w : World) : Prop := ∃ v, w.cell? ⟨g, 0, none⟩ = some v ∧ (v = .nilIface ∨ ∃ te pe, v = .iface te pe)
theorem ErrAt.later {g : Nat} {a b : World} (h : ErrAt g a) (q : Q a b) : ErrAt g b := by
  obtain ⟨v, h1, h2⟩ := h
  exact ⟨v, (q.cell (p := ⟨g, 0, none⟩) (Lib.lt_of_cell h1)).trans h1, h2⟩
/-- the two errors of strconv are laid -/
def Ers (w : World) : Prop := ErrAt 0 w ∧ ErrAt 1 w
theorem Ers.later {a b : World} (h : Ers a) (q : Q a b) : Ers b := ⟨h.1.later q, h.2.later q⟩
theorem atoi_ok (s : ByteArray) (hs : s.size ≤ 100) (v : Int) (h : Lib.atoiAll s.data.toList = .ok v) (w : World) :
    Calls Tryd.prog 44 #[.string s] w fun e w' => e = .returned (.tuple #[.int .i64 v, .nilIface]) ∧ Q w w' := by
  refine (Tryd.strconv_Atoi_ok s (by omega) v h w).mono ?_
  rintro e w' ⟨rfl, h⟩
  refine ⟨rfl, ?_⟩
  rcases h with rfl | ⟨t, rfl⟩
  · exact Q.refl _
  · exact Lib.bytesWorld_below _ _ _
/-- Atoi with an error -/
def AtErr (w : World) (e : Ending) (w' : World) : Prop := ∃ v N, e = .returned (.tuple #[.int .i64 v, .iface 87 (.pointer (some ⟨N, 0, none⟩))]) ∧ Q w w'
theorem atoi_err (s : ByteArray) (hs : s.size ≤ 100) (h : ∀ v, Lib.atoiAll s.data.toList ≠ .ok v) (w : World) (hE : Ers w) :
    Calls Tryd.prog 44 #[.string s] w (AtErr w) := by
  obtain ⟨⟨v0, h0, g0⟩, ⟨v1, h1, g1⟩⟩ := hE
  rcases hh : Lib.atoiAll s.data.toList with v | _ | _
  · exact absurd hh (h v)
  · refine (Any.strconv_Atoi_syntax Tryd.laysC172 s (by omega) hh v0 w h0 g0).mono ?_
    rintro e w' ⟨N, rfl, _, _, hb⟩
    exact ⟨_, N, rfl, hb⟩
  · refine (Any.strconv_Atoi_range Tryd.laysC172 s (by omega) hh v1 w h1 g1).mono ?_
    rintro e w' ⟨N, rfl, _, _, hb⟩
    exact ⟨_, N, rfl, hb⟩
theorem cut_yes (n : ByteArray) (w : World) : Calls Tryd.prog 43 #[.string (⟨#[115, 111, 109, 101, 58]⟩ ++ n), .string ⟨#[115, 111, 109, 101, 58]⟩] w fun e w' => e = .returned (.tuple #[.string n, .bool true]) ∧ w = w' := by
  refine (Tryd.strings_CutPrefix _ _ w).mono ?_
  rintro e w' ⟨rfl, rfl⟩
  have e1 : ((⟨#[115, 111, 109, 101, 58]⟩ : ByteArray) ++ n).data.toList = [115, 111, 109, 101, 58] ++ n.data.toList := by simp
  have e2 : Lib.hasPrefix ((⟨#[115, 111, 109, 101, 58]⟩ : ByteArray) ++ n).data.toList (⟨#[115, 111, 109, 101, 58]⟩ : ByteArray).data.toList = true := by
    rw [e1]; simp [Lib.hasPrefix]
  refine ⟨?_, rfl⟩
  unfold Lib.trimPrefix
  rw [e2, if_pos rfl, e1]
  simp
theorem cut_no (s : ByteArray) (h : ∀ n, s ≠ ⟨#[115, 111, 109, 101, 58]⟩ ++ n) (w : World) : Calls Tryd.prog 43 #[.string s, .string ⟨#[115, 111, 109, 101, 58]⟩] w fun e w' => e = .returned (.tuple #[.string s, .bool false]) ∧ w = w' := by
  refine (Tryd.strings_CutPrefix _ _ w).mono ?_
  rintro e w' ⟨rfl, rfl⟩
  have e2 : Lib.hasPrefix s.data.toList (⟨#[115, 111, 109, 101, 58]⟩ : ByteArray).data.toList = false := by
    cases hh : Lib.hasPrefix s.data.toList (⟨#[115, 111, 109, 101, 58]⟩ : ByteArray).data.toList with
    | false => rfl
    | true =>
      unfold Lib.hasPrefix at hh
      obtain ⟨t, ht⟩ := List.isPrefixOf_iff_prefix.1 hh
      refine absurd ?_ (h ⟨t.toArray⟩)
      apply ByteArray.ext
      apply Array.ext'
      rw [← ht]
      simp
  refine ⟨?_, rfl⟩
  unfold Lib.trimPrefix
  rw [e2, if_neg (by simp)]
/-- a text behind 'some:' is that of a number, or of no policy -/
theorem is_some_iff {n : ByteArray} {q m : Int} (h : Is (⟨#[115, 111, 109, 101, 58]⟩ ++ n) q m) : q = 3 ∧ (1 ≤ m ∧ m ≤ 100) ∧ n = strOfNums (dgs m (nz m)) := by
  have := is_kd h
  unfold kd at this
  rw [if_pos (by rw [some_size]; omega)] at this
  rcases is_keep h with ⟨a, b⟩ | ⟨a, b, c⟩
  · exact absurd this a
  · exact ⟨a, b, app_inj c⟩
theorem ne_tl {s : ByteArray} (t : ByteArray) (h : s ≠ t) : ¬ t.data.toList = s.toList := by
  rw [ByteArray.toList_eq]
  intro e
  apply h
  apply ByteArray.ext
  exact Array.ext' e.symm
/-- none of the first words -/
def NoWord (s : ByteArray) (j : Nat) : Prop := (0 < j → s ≠ ⟨#[100, 114, 111, 112]⟩) ∧ (1 < j → s ≠ ⟨#[108, 97, 115, 116]⟩) ∧ (2 < j → s ≠ ⟨#[97, 108, 108]⟩)
theorem noWord_none {s : ByteArray} (h : NoWord s 4) (g : ∀ n, s ≠ ⟨#[115, 111, 109, 101, 58]⟩ ++ n) : ∀ q m, ¬ Is s q m := by
  intro q m i
  rcases is_cases i with ⟨_, _, a⟩ | ⟨_, _, a⟩ | ⟨_, _, a⟩ | ⟨_, _, a⟩
  · exact h.1 (by omega) a
  · exact h.2.1 (by omega) a
  · exact h.2.2 (by omega) a
  · exact g _ a
theorem RT.later {B : Nat} {a b : World} (h : RT B a) (q : Q a b) : RT B b := by
  obtain ⟨h0, h1, h2, h3, h4, h5, h6, h7, h8⟩ := h
  exact ⟨Nat.lt_of_lt_of_le h0 q.size, (q.cell (p := ⟨B, 0, none⟩) h0).trans h1, (q.cell (p := ⟨B, 1, none⟩) h0).trans h2, (q.cell (p := ⟨B, 2, none⟩) h0).trans h3, (q.cell (p := ⟨B, 3, none⟩) h0).trans h4, (q.cell (p := ⟨B, 4, none⟩) h0).trans h5, (q.cell (p := ⟨B, 5, none⟩) h0).trans h6, (q.cell (p := ⟨B, 6, none⟩) h0).trans h7, (q.cell (p := ⟨B, 7, none⟩) h0).trans h8⟩
set_option maxHeartbeats 2000000 in
theorem parse_any (s : ByteArray) (hs : s.size ≤ 100) (w : World) (hT : Tab w) (hE : Ers w) : Calls Tryd.prog 30 #[.string s] w (PrsPost s w) := by
  by_cases hp : ∃ n, s = ⟨#[115, 111, 109, 101, 58]⟩ ++ n
  · obtain ⟨n, rfl⟩ := hp
    have hn : n.size ≤ 100 := by rw [some_size] at hs; omega
    have kc := cut_yes n
    have HI := Lib.hid (fun q m => is_some_iff (n := n) (q := q) (m := m))
    obtain ⟨s, hsv⟩ : ∃ x, (⟨#[115, 111, 109, 101, 58]⟩ : ByteArray) ++ n = x := ⟨_, rfl⟩
    have HS := Lib.hid hsv
    rw [hsv] at kc HI hs ⊢
    by_cases ha : ∃ v, Lib.atoiAll n.data.toList = .ok v
    · obtain ⟨v, hv⟩ := ha
      have ka := atoi_ok n hn v hv
      have kk := fun w2 => check_any 3 v w2
      rcases chk_vals 3 v with h | h
      · rw [h] at kk
        have hv1 : 1 ≤ v ∧ v ≤ 100 := by rcases chk_cases h with ⟨a, _⟩ | ⟨a, _⟩ | ⟨a, _⟩ | ⟨_, a⟩ <;> first | (exfalso; omega) | exact a
        have ki := fun w2 (hT2 : Tab w2) => itoa_any v hv1 w2 hT2
        obtain ⟨t, ht⟩ : ∃ t, strOfNums (dgs v (nz v)) = t := ⟨_, rfl⟩
        rw [ht] at ki
        by_cases e : t = n
        · have HH : Hid (Is s 3 v) := Lib.hid ⟨h, by rw [← hsv, ← e, ← ht]; rfl⟩
          subst e
          have y3 : (!(t.toList == t.toList)) = false := by simp
          clear h ht hsv hv
          go_enter Tryd.func30, Tryd.ntmps30
          go_wp2_with (first
            | (go_at_call 43; refine (kc _).mono ?_; rintro e w1 ⟨rfl, rfl⟩)
            | (go_at_call 44; refine (ka _).mono ?_; rintro e w2 ⟨rfl, hq2⟩)
            | (go_at_call 19; refine (kk _).mono ?_; rintro e w3 ⟨rfl, hq3⟩)
            | (go_at_call 41; refine (ki _ (hT.later (hq2.trans hq3))).mono ?_; rintro e w4 ⟨rfl, hq4⟩))
          refine bodyPost_ret (v := .tuple #[.int .i64 3, .int .i64 v, .int .i64 0]) (by simp [results, Tryd.results30, go_sem]) rfl ⟨3, v, 0, rfl, Or.inl ⟨rfl, HH.out⟩, ?_⟩
          exact (hq2.trans hq3).trans hq4
        · have y3 := bs_f e
          have HH : Hid (∀ q m, ¬ Is s q m) := Lib.hid (fun q m i => by
            obtain ⟨rfl, b, c⟩ := HI.out q m i
            rw [c, atoi_dk b] at hv
            injection hv with hv
            subst hv
            exact e (ht.symm.trans c.symm))
          clear h ht hsv hv
          go_enter Tryd.func30, Tryd.ntmps30
          go_wp2_with (first
            | (go_at_call 43; refine (kc _).mono ?_; rintro e w1 ⟨rfl, rfl⟩)
            | (go_at_call 44; refine (ka _).mono ?_; rintro e w2 ⟨rfl, hq2⟩)
            | (go_at_call 19; refine (kk _).mono ?_; rintro e w3 ⟨rfl, hq3⟩)
            | (go_at_call 41; refine (ki _ (hT.later (hq2.trans hq3))).mono ?_; rintro e w4 ⟨rfl, hq4⟩))
          refine bodyPost_ret (v := .tuple #[.int .i64 0, .int .i64 0, .int .i64 10]) (by simp [results, Tryd.results30, go_sem]) rfl ⟨0, 0, 10, rfl, Or.inr ⟨rfl, rfl, rfl, HH.out⟩, ?_⟩
          exact (hq2.trans hq3).trans hq4
      · rw [h] at kk
        have HH : Hid (∀ q m, ¬ Is s q m) := Lib.hid (fun q m i => by
            obtain ⟨rfl, b, c⟩ := HI.out q m i
            rw [c, atoi_dk b] at hv
            injection hv with hv
            subst hv
            have := i.1
            omega)
        clear h hsv hv
        go_enter Tryd.func30, Tryd.ntmps30
        go_wp2_with (first
          | (go_at_call 43; refine (kc _).mono ?_; rintro e w1 ⟨rfl, rfl⟩)
          | (go_at_call 44; refine (ka _).mono ?_; rintro e w2 ⟨rfl, hq2⟩)
          | (go_at_call 19; refine (kk _).mono ?_; rintro e w3 ⟨rfl, hq3⟩))
        refine bodyPost_ret (v := .tuple #[.int .i64 0, .int .i64 0, .int .i64 10]) (by simp [results, Tryd.results30, go_sem]) rfl ⟨0, 0, 10, rfl, Or.inr ⟨rfl, rfl, rfl, HH.out⟩, ?_⟩
        exact hq2.trans hq3
    · have ka := atoi_err n hn (fun v hv => ha ⟨v, hv⟩)
      unfold AtErr at ka
      have HH : Hid (∀ q m, ¬ Is s q m) := Lib.hid (fun q m i => by
            obtain ⟨rfl, b, c⟩ := HI.out q m i
            exact ha ⟨m, by rw [c]; exact atoi_dk b⟩)
      clear ha hsv
      go_enter Tryd.func30, Tryd.ntmps30
      go_wp2_with (first
          | (go_at_call 43; refine (kc _).mono ?_; rintro e w1 ⟨rfl, rfl⟩)
          | (go_at_call 44; refine (ka _ hE).mono ?_; rintro e w2 ⟨v, N, rfl, hq2⟩))
      refine bodyPost_ret (v := .tuple #[.int .i64 0, .int .i64 0, .int .i64 10]) (by simp [results, Tryd.results30, go_sem]) rfl ⟨0, 0, 10, rfl, Or.inr ⟨rfl, rfl, rfl, HH.out⟩, ?_⟩
      exact hq2
  · have hno : ∀ n, s ≠ ⟨#[115, 111, 109, 101, 58]⟩ ++ n := fun n e => hp ⟨n, e⟩
    have kc := cut_no s hno
    have HN := Lib.hid hno
    have y4 : ¬ [115, 111, 109, 101, 58] = s.toList := ne_tl ⟨#[115, 111, 109, 101, 58]⟩ (fun e => hno ⟨#[]⟩ (by rw [e]; rfl))
    clear hno hp
    go_enter Tryd.func30, Tryd.ntmps30
    go_wp2_with (first
          | (go_at_call 43; refine (kc _).mono ?_; rintro e w1 ⟨rfl, rfl⟩)
          | (go_at_call 37; refine (rules_any _).mono ?_; rintro e w2 ⟨B, rfl, hq2, hr⟩))
    go_loopw [38] (fun vi wr => ∃ j : Nat, vi = .int .i64 j ∧ j ≤ 4 ∧ NoWord s j ∧ RT B wr ∧ Q w wr) (fun vi _ => 4 - (intOf vi).toNat)
    case atStart => exact ⟨0, rfl, by omega, ⟨fun h => by omega, fun h => by omega, fun h => by omega⟩, hr, hq2⟩
    case round =>
      obtain ⟨j, rfl, hj, hw, hr, hq⟩ := hrel
      have HW := Lib.hid hw; have HR := Lib.hid hr
      clear hw
      obtain ⟨r0, r1, r2, r3, r4, r5, r6, r7, r8⟩ := hr
      match j, hj with
      | 0, _ =>
        by_cases e : s = ⟨#[100, 114, 111, 112]⟩
        · subst e
          go_wp2_with fail
          refine bodyPost_ret (v := .tuple #[.int .i64 0, .int .i64 0, .int .i64 0]) (by simp [results, Tryd.results30, go_sem]) rfl ⟨0, 0, 0, rfl, Or.inl ⟨rfl, by decide, rfl⟩, ?_⟩
          repeat (first | exact Q.refl _ | assumption | refine Q.alloc ?_ _ | refine Q.setCell ?_ (by simp; have := hq.size; omega) _)
        · have HE := Lib.hid e
          have y3 : ¬ [100, 114, 111, 112] = s.toList := ne_tl ⟨#[100, 114, 111, 112]⟩ e
          clear e
          go_wp2_with fail
          go_roundw
          case rel => exact ⟨0 + 1, by go_num, by omega, ⟨fun _ => HE.out, fun h => by omega, fun h => by omega⟩, HR.out.later ((Q.refl _).alloc _), hq.alloc _⟩
          case measure => simp [intOf]
      | 1, _ =>
        by_cases e : s = ⟨#[108, 97, 115, 116]⟩
        · subst e
          go_wp2_with fail
          refine bodyPost_ret (v := .tuple #[.int .i64 1, .int .i64 0, .int .i64 0]) (by simp [results, Tryd.results30, go_sem]) rfl ⟨1, 0, 0, rfl, Or.inl ⟨rfl, by decide, rfl⟩, ?_⟩
          repeat (first | exact Q.refl _ | assumption | refine Q.alloc ?_ _ | refine Q.setCell ?_ (by simp; have := hq.size; omega) _)
        · have HE := Lib.hid e
          have y3 : ¬ [108, 97, 115, 116] = s.toList := ne_tl ⟨#[108, 97, 115, 116]⟩ e
          clear e
          go_wp2_with fail
          go_roundw
          case rel => exact ⟨1 + 1, by go_num, by omega, ⟨fun _ => HW.out.1 (by omega), fun _ => HE.out, fun h => by omega⟩, HR.out.later ((Q.refl _).alloc _), hq.alloc _⟩
          case measure => simp [intOf]
      | 2, _ =>
        by_cases e : s = ⟨#[97, 108, 108]⟩
        · subst e
          go_wp2_with fail
          refine bodyPost_ret (v := .tuple #[.int .i64 2, .int .i64 0, .int .i64 0]) (by simp [results, Tryd.results30, go_sem]) rfl ⟨2, 0, 0, rfl, Or.inl ⟨rfl, by decide, rfl⟩, ?_⟩
          repeat (first | exact Q.refl _ | assumption | refine Q.alloc ?_ _ | refine Q.setCell ?_ (by simp; have := hq.size; omega) _)
        · have HE := Lib.hid e
          have y3 : ¬ [97, 108, 108] = s.toList := ne_tl ⟨#[97, 108, 108]⟩ e
          clear e
          go_wp2_with fail
          go_roundw
          case rel => exact ⟨2 + 1, by go_num, by omega, ⟨fun _ => HW.out.1 (by omega), fun _ => HW.out.2.1 (by omega), fun _ => HE.out⟩, HR.out.later ((Q.refl _).alloc _), hq.alloc _⟩
          case measure => simp [intOf]
      | 3, _ =>
        go_wp2_with fail
        go_roundw
        case rel => exact ⟨3 + 1, by go_num, by omega, ⟨fun _ => HW.out.1 (by omega), fun _ => HW.out.2.1 (by omega), fun _ => HW.out.2.2 (by omega)⟩, HR.out.later ((Q.refl _).alloc _), hq.alloc _⟩
        case measure => simp [intOf]
      | 4, _ =>
        go_wp2_with fail
        refine bodyPost_ret (v := .tuple #[.int .i64 0, .int .i64 0, .int .i64 10]) (by simp [results, Tryd.results30, go_sem]) rfl ⟨0, 0, 10, rfl, Or.inr ⟨rfl, rfl, rfl, noWord_none HW.out HN.out⟩, hq⟩
end Go.Proofs.YtadfdkhgjjehnaaDoor
