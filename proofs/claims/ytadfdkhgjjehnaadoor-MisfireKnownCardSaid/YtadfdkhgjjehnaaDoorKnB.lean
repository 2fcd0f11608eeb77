/- The walk of the law Known. -/
import Derived.Test.YtadfdkhgjjehnaaDoorKnA
import Derived.Test.YtadfdkhgjjehnaaDoorMisL
namespace Go.Proofs.YtadfdkhgjjehnaaDoor
open Go.RowKit
set_option linter.unusedVariables false
set_option linter.unusedSimpArgs false
/-- the wrong policies of the law -/
def wp (j : Nat) : Int := [-1, 4, 0, 1, 2, 3, 3, 3].getD j 0
def wk (j : Nat) : Int := [0, 0, 1, 1, -1, 0, 101, -1].getD j 0
theorem wpk_bad : ∀ j, j < 8 → Mf.chkE (wp j) (wk j) = 2 := by decide
def Wrg (B : Nat) (w : World) : Prop := B < w.heap.size ∧ ∀ j, j < 8 → w.cell? ⟨B, j * 2, none⟩ = some (.int .i64 (wp j)) ∧ w.cell? ⟨B, j * 2 + 1, none⟩ = some (.int .i64 (wk j))
theorem Wrg.later {B : Nat} {a b : World} (h : Wrg B a) (q : Q a b) : Wrg B b :=
  ⟨Nat.lt_of_lt_of_le h.1 q.size, fun j hj => ⟨(q.cell (p := ⟨B, j * 2, none⟩) h.1).trans (h.2 j hj).1, (q.cell (p := ⟨B, j * 2 + 1, none⟩) h.1).trans (h.2 j hj).2⟩⟩
theorem wrg_new (w : World) : Wrg w.heap.size (w.alloc (.cells #[.int .i64 (-1), .int .i64 0, .int .i64 4, .int .i64 0, .int .i64 0, .int .i64 1, .int .i64 1, .int .i64 1, .int .i64 2, .int .i64 (-1), .int .i64 3, .int .i64 0, .int .i64 3, .int .i64 101, .int .i64 3, .int .i64 (-1)] 52)) := by
  refine ⟨by simp, fun j hj => ?_⟩
  rw [World.cell?, World.cell?]
  simp only [World.alloc_heap_new]
  match j, hj with
  | 0, _ => exact ⟨rfl, rfl⟩
  | 1, _ => exact ⟨rfl, rfl⟩
  | 2, _ => exact ⟨rfl, rfl⟩
  | 3, _ => exact ⟨rfl, rfl⟩
  | 4, _ => exact ⟨rfl, rfl⟩
  | 5, _ => exact ⟨rfl, rfl⟩
  | 6, _ => exact ⟨rfl, rfl⟩
  | 7, _ => exact ⟨rfl, rfl⟩
theorem sl_neg (w : World) : Sl (some ⟨w.heap.size, 0, none⟩) [-1] (w.alloc (.cells #[.int .i64 (-1)] 2)).drew := (new_sl w [-1] _ rfl).later (Q.refl _).drew
/-- a contract that keeps two cells -/
theorem keepC {f : Nat} {args : Array Value} {R : Ending → World → Prop} {w2 : World} {B i : Nat} {x y : Value} (k : Calls Tryd.prog f args w2 R) (hQ : ∀ e w', R e w' → Q w2 w')
    (h : w2.cell? ⟨B, i, none⟩ = some x ∧ w2.cell? ⟨B, i + 1, none⟩ = some y) :
    Calls Tryd.prog f args w2 fun e w' => R e w' ∧ w'.cell? ⟨B, i, none⟩ = some x ∧ w'.cell? ⟨B, i + 1, none⟩ = some y := by
  refine k.mono fun e w' r => ⟨r, ?_, ?_⟩
  · exact ((hQ e w' r).cell (p := ⟨B, i, none⟩) (Lib.lt_of_cell h.1)).trans h.1
  · exact ((hQ e w' r).cell (p := ⟨B, i + 1, none⟩) (Lib.lt_of_cell h.2)).trans h.2
theorem kn_loopK {p k : Int} (hb : Mf.chkE p k = 2) {B i : Nat} (w : World) (h1 : w.cell? ⟨B, i, none⟩ = some (.int .i64 p)) (h2 : w.cell? ⟨B, i + 1, none⟩ = some (.int .i64 k)) :
    Calls Tryd.prog 15 #[.int .i64 p, .int .i64 k, .slice (some ⟨w.heap.size, 0, none⟩) 1 1] (w.alloc (.cells #[.int .i64 (-1)] 2)).drew fun e w' => ∃ v1 v2, e = .returned (.tuple #[v1, v2, .int .i64 2]) ∧ Q w w' ∧ w'.cell? ⟨B, i, none⟩ = some (.int .i64 p) ∧ w'.cell? ⟨B, i + 1, none⟩ = some (.int .i64 k) := by
  refine (kn_keepE p k _ [-1] 1 1 2 (kn_kbad hb [-1]) rfl (by decide) (by decide) _ (sl_neg w)).mono ?_
  rintro e w' ⟨v1, v2, rfl, q⟩
  have q2 : Q w w' := (((Q.refl w).alloc _).drew).trans q
  exact ⟨v1, v2, rfl, q2, (q2.cell (p := ⟨B, i, none⟩) (Lib.lt_of_cell h1)).trans h1, (q2.cell (p := ⟨B, i + 1, none⟩) (Lib.lt_of_cell h2)).trans h2⟩
theorem kn_loopC {p k : Int} (hb : Mf.chkE p k = 2) {B i : Nat} (w : World) (h1 : w.cell? ⟨B, i, none⟩ = some (.int .i64 p)) (h2 : w.cell? ⟨B, i + 1, none⟩ = some (.int .i64 k)) :
    Calls Tryd.prog 17 #[.int .i64 p, .int .i64 k, .int .i64 (-1)] w fun e w' => e = .returned (.tuple #[.int .i64 0, .int .i64 0, .int .i64 2]) ∧ Q w w' ∧ w'.cell? ⟨B, i, none⟩ = some (.int .i64 p) ∧ w'.cell? ⟨B, i + 1, none⟩ = some (.int .i64 k) := by
  refine (kn_count hb w).mono ?_
  rintro e w' ⟨rfl, q2⟩
  exact ⟨rfl, q2, (q2.cell (p := ⟨B, i, none⟩) (Lib.lt_of_cell h1)).trans h1, (q2.cell (p := ⟨B, i + 1, none⟩) (Lib.lt_of_cell h2)).trans h2⟩
theorem kn_loopJ {p k : Int} (hb : Mf.chkE p k = 2) {B i : Nat} (w : World) (h1 : w.cell? ⟨B, i, none⟩ = some (.int .i64 p)) (h2 : w.cell? ⟨B, i + 1, none⟩ = some (.int .i64 k)) :
    Calls Tryd.prog 26 #[.int .i64 p, .int .i64 k, .slice none 0 0, .slice none 0 0] w fun e w' => ∃ v, e = .returned (.tuple #[v, .int .i64 2]) ∧ Q w w' ∧ w'.cell? ⟨B, i, none⟩ = some (.int .i64 p) ∧ w'.cell? ⟨B, i + 1, none⟩ = some (.int .i64 k) := by
  refine (kn_joinE p k none none 0 0 0 0 [] [] 2 (kn_jbad hb) rfl rfl (by decide) (by decide) (fun _ => rfl) (fun _ => rfl) w (Or.inl rfl) (Or.inl rfl)).mono ?_
  rintro e w' ⟨v, rfl, q2⟩
  exact ⟨v, rfl, q2, (q2.cell (p := ⟨B, i, none⟩) (Lib.lt_of_cell h1)).trans h1, (q2.cell (p := ⟨B, i + 1, none⟩) (Lib.lt_of_cell h2)).trans h2⟩
theorem kn_loopE {p k : Int} (hb : Mf.chkE p k = 2) {B i : Nat} (w : World) (h1 : w.cell? ⟨B, i, none⟩ = some (.int .i64 p)) (h2 : w.cell? ⟨B, i + 1, none⟩ = some (.int .i64 k)) :
    Calls Tryd.prog 19 #[.int .i64 p, .int .i64 k] w fun e w' => e = .returned (.int .i64 2) ∧ Q w w' ∧ w'.cell? ⟨B, i, none⟩ = some (.int .i64 p) ∧ w'.cell? ⟨B, i + 1, none⟩ = some (.int .i64 k) := by
  refine (check_any p k w).mono ?_
  rintro e w' ⟨rfl, q2⟩
  exact ⟨by rw [hb], q2, (q2.cell (p := ⟨B, i, none⟩) (Lib.lt_of_cell h1)).trans h1, (q2.cell (p := ⟨B, i + 1, none⟩) (Lib.lt_of_cell h2)).trans h2⟩
/-- what make gives -/
def Made (w : World) (B n : Nat) (w' : World) : Prop := Q w w' ∧ B < w'.heap.size ∧ ∀ j, j < n → w'.cell? ⟨B, j, none⟩ = some (.int .i64 0) ∧ w'.frozen? ⟨B, j, none⟩ = false
theorem mk_ints (w : World) (n : Nat) (m : Int) (hm : m = (n : Int)) (hn : n ≤ 1000000) : ∃ w', (Instr.makeSlice 22 (.int .i64 m) (.int .i64 m)).run Tryd.prog w = .ok (.slice (some ⟨w.heap.size, 0, none⟩) n n) w' ∧ Made w w.heap.size n w' := by
  subst hm
  obtain ⟨i0, hi, hz0, hz1, hz2⟩ := info_parts info2
  obtain ⟨w2, hmk, ho, hg⟩ := run_make_full (P := Tryd.prog) w w.heap.size 22 2 i0 (.int .i64 0) 1 Tryd.underlying22 hi hz0 hz1 .i64 .i64 n (by rw [hz2]; omega) (by unfold maxLen; omega) (Nat.le_refl _)
  refine ⟨w2, hmk, (Q.refl w).grown hg (fun r e => by cases e), ho.lt _ rfl |>.2, fun j hj => ⟨?_, ho.frozenAt j⟩⟩
  have := ho.cellAt j (by omega)
  rw [this, show (Value.int IntKind.i64 0).cells = #[Value.int .i64 0] from rfl, toList_madeCells_one]
  simp [List.getElem?_replicate, show j < n by omega]
theorem Made.sl {w w' : World} {B n : Nat} (h : Made w B n w') : Sl (some ⟨B, 0, none⟩) (List.replicate n 0) w' := by
  refine Or.inr ⟨B, 0, rfl, h.2.1, fun j hj => ?_⟩
  rw [List.length_replicate] at hj
  have := (h.2.2 j hj).1
  rw [Nat.zero_add, this, List.getD_eq_getElem?_getD, List.getElem?_replicate, if_pos hj]
  rfl
theorem info22 : (Tryd.prog.info? 22).map (fun i => (i.zero, i.size, i.bytes)) = some (some (.slice none 0 0), 1, 24) := by kernel_rfl
theorem mk_lists (w : World) (n : Nat) (m : Int) (hm : m = (n : Int)) (hn : n ≤ 1000000) : ∃ w', (Instr.makeSlice 33 (.int .i64 m) (.int .i64 m)).run Tryd.prog w = .ok (.slice (some ⟨w.heap.size, 0, none⟩) n n) w' ∧ Q w w' ∧ Lm (some ⟨w.heap.size, 0, none⟩) (List.replicate n []) w' := by
  subst hm
  obtain ⟨i0, hi, hz0, hz1, hz2⟩ := info_parts info22
  obtain ⟨w2, hmk, ho, hg⟩ := run_make_full (P := Tryd.prog) w w.heap.size 33 22 i0 (.slice none 0 0) 1 Tryd.underlying33 hi hz0 hz1 .i64 .i64 n (by rw [hz2]; omega) (by unfold maxLen; omega) (Nat.le_refl _)
  refine ⟨w2, hmk, (Q.refl w).grown hg (fun r e => by cases e), Or.inr ⟨w.heap.size, 0, fun _ => none, fun _ => 0, rfl, ho.lt _ rfl |>.2, fun j hj => ?_⟩⟩
  rw [List.length_replicate] at hj
  have := ho.cellAt j (by omega)
  rw [rep_row]
  refine ⟨?_, Or.inl rfl⟩
  rw [Nat.zero_add, this, show (Value.slice none 0 0).cells = #[Value.slice none 0 0] from rfl, toList_madeCells_one]
  unfold Mf.ln
  rw [rep_row]
  simp [List.getElem?_replicate, show j < n by omega]
/-- a half-filled list -/
def Half (w : World) (H n i : Nat) (wr : World) : Prop := Q w wr ∧ w.heap.size ≤ H ∧ H < wr.heap.size ∧ ∀ j, j < n → wr.cell? ⟨H, j, none⟩ = some (.int .i64 (if j < i then j else 0)) ∧ wr.frozen? ⟨H, j, none⟩ = false
theorem Half.start {w w1 w2 : World} {H n : Nat} (q : Q w w1) (hH : w.heap.size ≤ H) (h : Made w1 H n w2) : Half w H n 0 w2 := by
  refine ⟨q.trans h.1, hH, h.2.1, fun j hj => ?_⟩
  rw [if_neg (by omega)]
  exact h.2.2 j hj
theorem Half.step {w wr : World} {H n i : Nat} (h : Half w H n i wr) (hi : i < n) : Half w H n (i + 1) (wr.setCell ⟨H, i, none⟩ (.int .i64 i)) := by
  obtain ⟨h1, h2, h3, h4⟩ := h
  refine ⟨h1.setCell (p := ⟨H, i, none⟩) h2 _, h2, by rw [World.size_setCell]; exact h3, fun j hj => ?_⟩
  rw [World.frozen?_setCell]
  refine ⟨?_, (h4 j hj).2⟩
  by_cases e : j = i
  · subst e
    rw [World.cell?_setCell_same _ _ _ (h4 j hj).1, if_pos (by omega)]
  · rw [World.cell?_setCell_other _ _ _ _ (by simp; try exact e), (h4 j hj).1]
    by_cases g : j < i
    · rw [if_pos g, if_pos (by omega)]
    · rw [if_neg g, if_neg (by omega)]
theorem Half.sl {w wr : World} {H n : Nat} (h : Half w H n n wr) : Sl (some ⟨H, 0, none⟩) (upN n) wr := by
  refine Or.inr ⟨H, 0, rfl, h.2.2.1, fun j hj => ?_⟩
  rw [upN_len] at hj
  rw [upN_get hj, Nat.zero_add, (h.2.2.2 j hj).1, if_pos hj]
set_option maxRecDepth 100000 in
set_option maxHeartbeats 4000000 in
theorem known_walk (w : World) (hTE : Tab w ∧ Ers w) :
    Calls Tryd.prog 12 #[] w fun e w' => e = .returned (.bool true) ∧ Q w w' := by
  obtain ⟨hT, hE⟩ := hTE
  have ka := fun w2 hT2 hE2 => parse_yes ⟨#[97, 108, 108]⟩ (by decide) 2 0 is_all w2 hT2 hE2
  have kb := fun w2 hT2 hE2 => parse_no ⟨#[115, 111, 109, 101, 58, 48, 49, 50]⟩ (by decide) not_012 w2 hT2 hE2
  have k9 := fun a b c d w2 h g => same_any a b [9] [9] 1 1 c d rfl rfl (by decide) (by decide) w2 h g
  have k35 := fun a b c d w2 h g => same_any a b [3, 5] [3, 5] 2 2 c d rfl rfl (by decide) (by decide) w2 h g
  have k59 := fun a b c d w2 h g => same_any a b [5, 9] [5, 9] 2 2 c d rfl rfl (by decide) (by decide) w2 h g
  rw [show decide ([(9 : Int)] = [9]) = true from rfl] at k9
  rw [show decide ([(3 : Int), 5] = [3, 5]) = true from rfl] at k35
  rw [show decide ([(5 : Int), 9] = [5, 9]) = true from rfl] at k59
  have kj2 := fun a b c d z1 z2 w2 h g => kn_joinE 2 0 a b 2 1 c d [3, 5] [5] 8 kn_j2 rfl rfl (by decide) (by decide) z1 z2 w2 h g
  go_enter Tryd.func12, Tryd.ntmps12
  go_wp2_with (first
    | (go_at_call 15; with_reducible refine (kn_keep _ _ ?_ _ ?_).mono ?_; (exact Nat.le_refl _); (exact new_slb _ _ (by simp) [3, 5, 9] _ rfl); rintro e w1 ⟨a1, c1, a2, c2, rfl, s1, s2, q1⟩)
    | (go_at_call 26; with_reducible refine (kn_join _ _ _ _ ?_ ?_ _ ?_ ?_).mono ?_; (· simp); (· simp); (exact (new_slb _ _ (by simp) [3, 5] _ rfl).later ((Q.refl _).alloc _)); (exact new_slb _ _ (by simp) [9] _ rfl); rintro e w2 ⟨a3, c3, rfl, s3, q2⟩)
    | (go_at_call 26; with_reducible refine (kj2 _ _ _ _ ?_ ?_ _ ?_ ?_).mono ?_; (· simp); (· simp); (exact (new_slb _ _ (by simp) [3, 5] _ rfl).later ((Q.refl _).alloc _)); (exact new_slb _ _ (by simp) [5] _ rfl); rintro e w3 ⟨v3, rfl, q3⟩)
    | (go_at_call 30; with_reducible refine (ka _ ?_ ?_).mono ?_; (exact hT.later (by repeat (first | exact Q.refl _ | assumption | refine Q.alloc ?_ _ | refine Q.trans ?_ (by assumption)))); (exact hE.later (by repeat (first | exact Q.refl _ | assumption | refine Q.alloc ?_ _ | refine Q.trans ?_ (by assumption)))); rintro e w4 ⟨rfl, q4⟩)
    | (go_at_call 30; with_reducible refine (kb _ ?_ ?_).mono ?_; (exact hT.later (by repeat (first | exact Q.refl _ | assumption | refine Q.alloc ?_ _ | refine Q.trans ?_ (by assumption)))); (exact hE.later (by repeat (first | exact Q.refl _ | assumption | refine Q.alloc ?_ _ | refine Q.trans ?_ (by assumption)))); rintro e w5 ⟨rfl, q5⟩)
    | (go_at_call 25; with_reducible refine (k9 _ _ _ _ _ ?_ ?_).mono ?_; (exact s1.later (by repeat (first | exact Q.refl _ | assumption | refine Q.alloc ?_ _ | refine Q.trans ?_ (by assumption)))); (exact new_slb _ _ (by simp) [9] _ rfl); rintro e w6 ⟨rfl, q6⟩)
    | (go_at_call 25; with_reducible refine (k35 _ _ _ _ _ ?_ ?_).mono ?_; (exact s2.later (by repeat (first | exact Q.refl _ | assumption | refine Q.alloc ?_ _ | refine Q.trans ?_ (by assumption)))); (exact new_slb _ _ (by simp) [3, 5] _ rfl); rintro e w7 ⟨rfl, q7⟩)
    | (go_at_call 25; with_reducible refine (k59 _ _ _ _ _ ?_ ?_).mono ?_; (exact s3.later (by repeat (first | exact Q.refl _ | assumption | refine Q.alloc ?_ _ | refine Q.trans ?_ (by assumption)))); (exact new_slb _ _ (by simp) [5, 9] _ rfl); rintro e w8 ⟨rfl, q8⟩))
  have hQ8 : Q w w8 := (by repeat (first | exact Q.refl _ | assumption | refine Q.alloc ?_ _ | refine Q.drew ?_ | refine Q.drewN ?_ _ | refine Q.trans ?_ (by assumption)))
  have hW := wrg_new w8
  have hQw := hQ8.alloc (.cells #[.int .i64 (-1), .int .i64 0, .int .i64 4, .int .i64 0, .int .i64 0, .int .i64 1, .int .i64 1, .int .i64 1, .int .i64 2, .int .i64 (-1), .int .i64 3, .int .i64 0, .int .i64 3, .int .i64 101, .int .i64 3, .int .i64 (-1)] 52)
  generalize w8.alloc (.cells #[.int .i64 (-1), .int .i64 0, .int .i64 4, .int .i64 0, .int .i64 0, .int .i64 1, .int .i64 1, .int .i64 1, .int .i64 2, .int .i64 (-1), .int .i64 3, .int .i64 0, .int .i64 3, .int .i64 101, .int .i64 3, .int .i64 (-1)] 52) = wz at *
  obtain ⟨B, hB⟩ : ∃ B, w8.heap.size = B := ⟨_, rfl⟩
  rw [hB] at hW ⊢
  clear hB hQ8 q8 q7 q6 q5 q4 q3 q2 q1 s1 s2 s3
  go_loopw [15] (fun vi wr => ∃ j : Nat, vi = .int .i64 j ∧ j ≤ 8 ∧ Wrg B wr ∧ Q w wr) (fun vi _ => 8 - (intOf vi).toNat)
  case atStart => exact ⟨0, rfl, by omega, hW, hQw⟩
  case round =>
    obtain ⟨j, rfl, hj, hWr, hQr⟩ := hrel
    clear hW hQw
    rcases Nat.lt_or_ge j 8 with hlt | hge
    · obtain ⟨cc1, cc2⟩ := hWr.2 j hlt
      have hbad := wpk_bad j hlt
      have y1 : decide ((j : Int) < 8) = true := by simp; omega
      have y2 : (0 : Int) ≤ (j : Int) ∧ (j : Int) < 8 := by omega
      generalize wp j = p at *
      generalize wk j = k at *
      have HW := Lib.hid hWr; have HB := Lib.hid hbad
      clear hWr hbad
      go_wp2_with fail
      go_region_held3 (fun w' => w'.cell? ⟨B, j * 2, none⟩ = some (.int .i64 p) ∧ w'.cell? ⟨B, j * 2 + 1, none⟩ = some (.int .i64 k)) (go_keep) (first
        | (go_at_call 15; with_reducible refine (kn_loopK HB.out (B := B) (i := j * 2) _ cc1 cc2).mono ?_; rintro e w9 ⟨v1, v2, rfl, q9, u1, u2⟩))
      go_wp2_with fail
      go_region_held3 (fun w' => w'.cell? ⟨B, j * 2, none⟩ = some (.int .i64 p) ∧ w'.cell? ⟨B, j * 2 + 1, none⟩ = some (.int .i64 k)) (go_keep) (first
        | (go_at_call 17; with_reducible refine (kn_loopC HB.out (B := B) (i := j * 2) _ ?_ ?_).mono ?_; (simpa using u1); (simpa using u2); rintro e w10 ⟨rfl, q10, u3, u4⟩))
      go_wp2_with fail
      go_region_held3 (fun w' => w'.cell? ⟨B, j * 2, none⟩ = some (.int .i64 p) ∧ w'.cell? ⟨B, j * 2 + 1, none⟩ = some (.int .i64 k)) (go_keep) (first
        | (go_at_call 26; with_reducible refine (kn_loopJ HB.out (B := B) (i := j * 2) _ ?_ ?_).mono ?_; (simpa using u3); (simpa using u4); rintro e w11 ⟨v4, rfl, q11, u5, u6⟩))
      go_wp2_with fail
      go_region_held3 (fun w' => w'.cell? ⟨B, j * 2, none⟩ = some (.int .i64 p) ∧ w'.cell? ⟨B, j * 2 + 1, none⟩ = some (.int .i64 k)) (go_keep) (first
        | (go_at_call 19; with_reducible refine (kn_loopE HB.out (B := B) (i := j * 2) _ ?_ ?_).mono ?_; (simpa using u5); (simpa using u6); rintro e w12 ⟨rfl, q12, u7, u8⟩))
      go_wp2_with fail
      go_roundw
      case rel => exact ⟨j + 1, by go_num, by omega, HW.out.later (((q9.trans ((Q.refl _).drew.trans q10)).trans ((Q.refl _).drew.trans q11)).trans ((Q.refl _).drew.trans q12)), hQr.trans (((q9.trans ((Q.refl _).drew.trans q10)).trans ((Q.refl _).drew.trans q11)).trans ((Q.refl _).drew.trans q12))⟩
      case measure => simp [intOf]; omega
    · obtain rfl : j = 8 := by omega
      have y1 : decide (((8 : Nat) : Int) < 8) = false := by simp
      clear ka kb k9 k35 k59 kj2 hWr hj hge
      have kmany := fun a c w2 (hc : 100001 ≤ c) h => kn_keepE 0 0 a (List.replicate 100001 0) 100001 c 12 kn_kmany List.length_replicate (by decide) hc w2 h
      have k55n := fun a c w2 (hc : 3 ≤ c) h => kn_keepE 0 0 a [5, 5, -1] 3 c 14 kn_k14 rfl (by decide) hc w2 h
      have k55 := fun a c w2 (hc : 2 ≤ c) h => kn_keepE 0 0 a [5, 5] 2 c 8 kn_k8 rfl (by decide) hc w2 h
      have ko65 := fun a c w2 h => kn_orderE a (List.replicate 65 []) 65 c 12 kn_o65 List.length_replicate (by decide) (fun j hj => by unfold Mf.ln; rw [rep_row]; decide) w2 h
      have ko8 := fun a c w2 h => kn_orderE a [[3, 2], [-1]] 2 c 8 kn_o8 rfl (by decide) (fun j hj => by match j, hj with | 0, _ => decide | 1, _ => decide) w2 h
      have kj14 := fun a b c d z1 z2 w2 h g => kn_joinE 2 0 a b 1 1 c d [9] [-1] 14 kn_j3 rfl rfl (by decide) (by decide) z1 z2 w2 h g
      have ko12 := fun a c w2 h => kn_orderE a [upN 50001, upN 50001] 2 c 12 kn_o2 rfl (by decide) (fun j hj => by match j, hj with | 0, _ => (show (upN 50001).length ≤ 1000000000; rw [upN_len]; decide) | 1, _ => (show (upN 50001).length ≤ 1000000000; rw [upN_len]; decide)) w2 h
      have ks := fun a b c d w2 h g => same_any a b [50000] [50000] 1 1 c d rfl rfl (by decide) (by decide) w2 h g
      rw [show decide ([(50000 : Int)] = [50000]) = true from rfl] at ks
      obtain ⟨m1, hm1, hd1⟩ := mk_ints wr 100001 100001 rfl (by decide)
      have hs1 := hd1.sl
      have hq1 := hd1.1
      clear hd1
      go_wp2_with (first
        | (go_at_call 15; with_reducible refine (kmany _ _ _ ?_ ?_).mono ?_; (exact Nat.le_refl _); (exact hs1); rintro e n1 ⟨g1, g2, rfl, p1⟩)
        | (go_at_call 15; with_reducible refine (k55n _ _ _ ?_ ?_).mono ?_; (exact Nat.le_refl _); (exact new_slb _ _ (by simp) [5, 5, -1] _ rfl); rintro e n2 ⟨g3, g4, rfl, p2⟩)
        | (go_at_call 15; with_reducible refine (k55 _ _ _ ?_ ?_).mono ?_; (exact Nat.le_refl _); (exact new_slb _ _ (by simp) [5, 5] _ rfl); rintro e n3 ⟨g5, g6, rfl, p3⟩; obtain ⟨m2, hm2, hq2, hs2⟩ := mk_lists n3 65 65 rfl (by decide))
        | (go_at_call 22; with_reducible refine (ko65 _ _ _ ?_).mono ?_; (exact hs2); rintro e n4 ⟨g7, rfl, p4⟩)
        | (go_at_call 22; with_reducible refine (ko8 _ _ _ ?_).mono ?_; (refine new_lmb _ _ (by simp) _ _ _ _ _ _ [3, 2] [-1] ?_ ?_ rfl rfl; exact (new_slb _ _ (by simp) [3, 2] _ rfl).later ((Q.refl _).alloc _); exact new_slb _ _ (by simp) [-1] _ rfl); rintro e n5 ⟨g8, rfl, p5⟩)
        | (go_at_call 26; with_reducible refine (kj14 _ _ _ _ ?_ ?_ _ ?_ ?_).mono ?_; (· simp); (· simp); (exact (new_slb _ _ (by simp) [9] _ rfl).later ((Q.refl _).alloc _)); (exact new_slb _ _ (by simp) [-1] _ rfl); rintro e n6 ⟨g9, rfl, p6⟩; obtain ⟨m3, hm3, hq3, hs3⟩ := mk_lists n6 64 64 rfl (by decide))
        | (go_at_call 22; with_reducible refine (kn_order64 _ _ _ ?_).mono ?_; (exact hs3); rintro e n7 ⟨h1, h2, rfl, p7⟩; obtain ⟨m4, hm4, hd4⟩ := mk_ints n7 50001 50001 rfl (by decide)))
      have hQ7 : Q w n7 := (by repeat (first | exact Q.refl _ | assumption | refine Q.alloc ?_ _ | refine Q.drew ?_ | refine Q.drewN ?_ _ | refine Q.trans ?_ (by assumption)))
      obtain ⟨H, hH⟩ : ∃ H, n7.heap.size = H := ⟨_, rfl⟩
      have hHalf : Half w H 50001 0 m4 := Half.start hQ7 (by have := hQ7.size; omega) (by rw [← hH]; exact hd4)
      rw [hH]
      clear hH hd4 hm4 hm3 hm2 hm1 hQ7 p1 p2 p3 p4 p5 p6 p7 hq1 hq2 hq3 hs1 hs2 hs3 kmany k55n k55 ko65 ko8 kj14 hQr
      go_loopw [43] (fun vi wr2 => ∃ i : Nat, vi = .int .i64 i ∧ i ≤ 50001 ∧ Half w H 50001 i wr2) (fun vi _ => 50001 - (intOf vi).toNat)
      case atStart => exact ⟨0, rfl, by omega, hHalf⟩
      case round =>
        obtain ⟨i, rfl, hi, hHf⟩ := hrel
        clear hHalf
        rcases Nat.lt_or_ge i 50001 with hlt | hge
        · have z1 : decide ((i : Int) < 50001) = true := by simp; omega
          have z2 : (0 : Int) ≤ (i : Int) ∧ (i : Int) < 50001 := by omega
          obtain ⟨cc1, cc2⟩ := hHf.2.2.2 i hlt
          have HF := Lib.hid hHf
          have HL := Lib.hid hlt
          clear hHf hlt ko12 ks
          obtain ⟨u, hu⟩ : ∃ u, (if i < i then (i : Int) else 0) = u := ⟨_, rfl⟩
          rw [hu] at cc1
          clear hu
          go_wp2_with fail
          go_roundw
          case rel => exact ⟨i + 1, by go_num, by have := HL.out; omega, HF.out.step HL.out⟩
          case measure => simp [intOf]; omega
        · obtain rfl : i = 50001 := by omega
          have z1 : decide (((50001 : Nat) : Int) < 50001) = false := by simp
          have hsl := hHf.sl
          have hQh := hHf.1
          clear hHf hi hge
          go_wp2_with (first
            | (go_at_call 22; with_reducible refine (ko12 _ _ _ ?_).mono ?_; (exact new_lmb _ _ (by simp) _ _ _ _ _ _ (upN 50001) (upN 50001) hsl hsl (upN_len _) (upN_len _)); rintro e n8 ⟨h3, rfl, p8⟩)
            | (go_at_call 26; with_reducible refine (kn_last _ _ ?_ _ ?_).mono ?_; (· simp); (exact hsl.later (((Q.refl _).alloc _).trans p8)); rintro e n9 ⟨h4, h5, rfl, hs9, p9⟩)
            | (go_at_call 25; with_reducible refine (ks _ _ _ _ _ ?_ ?_).mono ?_; (exact hs9.later ((Q.refl _).alloc _)); (exact new_slb _ _ (by simp) [50000] _ rfl); rintro e n10 ⟨rfl, p10⟩)
            | (go_at_call 14; refine (works_any _ (hT.later (by repeat (first | exact Q.refl _ | assumption | refine Q.alloc ?_ _ | refine Q.drew ?_ | refine Q.drewN ?_ _ | refine Q.trans ?_ (by assumption))))).mono ?_; rintro e n11 ⟨rfl, p11⟩))
          go_ret
          exact ⟨rfl, (by repeat (first | exact Q.refl _ | assumption | refine Q.alloc ?_ _ | refine Q.drew ?_ | refine Q.drewN ?_ _ | refine Q.trans ?_ (by assumption)))⟩
end Go.Proofs.YtadfdkhgjjehnaaDoor
