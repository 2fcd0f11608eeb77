/- The contract of the document's Text. -/
import Derived.Test.YtdhlgmclogdplaaDoorTxtH
namespace Go.Proofs.YtdhlgmclogdplaaDoor
open Go.RowKit
set_option linter.unusedVariables false
set_option linter.unusedSimpArgs false
theorem txt_two (y m d h i s : Int) : (((((((((strOfNums [48 + y / 1000, 48 + y / 100 % 10, 48 + y / 10 % 10, 48 + y % 10] ++ ⟨#[45]⟩) ++ strOfNums [48 + m / 10, 48 + m % 10]) ++ ⟨#[45]⟩) ++ strOfNums [48 + d / 10, 48 + d % 10]) ++ ⟨#[32]⟩) ++ strOfNums [48 + h / 10, 48 + h % 10]) ++ ⟨#[58]⟩) ++ strOfNums [48 + i / 10, 48 + i % 10]) ++ ⟨#[58]⟩) ++ strOfNums [48 + s / 10, 48 + s % 10] = txt y m d h i s := by
  have e1 : (⟨#[45]⟩ : ByteArray) = strOfNums [45] := rfl
  have e2 : (⟨#[32]⟩ : ByteArray) = strOfNums [32] := rfl
  have e3 : (⟨#[58]⟩ : ByteArray) = strOfNums [58] := rfl
  rw [e1, e2, e3]
  simp only [str_app]; rfl
set_option maxHeartbeats 4000000 in
theorem rtext_good (t : Int) (g : Cal.timeOk t) (w : World) :
    Calls Tryd.prog 23 #[.int .i64 t] w fun e w' => e = .returned (.tuple #[.string (txt (Cal.cY t) (Cal.cM t) (Cal.cD t) (Cal.cH t) (Cal.cI t) (Cal.cS t)), .int .i64 0]) ∧ Q w w' := by
  have k1 := fun w2 => rof_good t g w2
  have cb := Cal.c_bd g
  have cy := (Cal.good_of g).1.1
  unfold Cal.Valid at cy
  obtain ⟨y, hy⟩ : ∃ x, Cal.cY t = x := ⟨_, rfl⟩
  obtain ⟨m, hm⟩ : ∃ x, Cal.cM t = x := ⟨_, rfl⟩
  obtain ⟨d, hd⟩ : ∃ x, Cal.cD t = x := ⟨_, rfl⟩
  obtain ⟨h, hh⟩ : ∃ x, Cal.cH t = x := ⟨_, rfl⟩
  obtain ⟨i, hi⟩ : ∃ x, Cal.cI t = x := ⟨_, rfl⟩
  obtain ⟨s, hs⟩ : ∃ x, Cal.cS t = x := ⟨_, rfl⟩
  have db := Cal.dim_bd (Cal.cY t) (Cal.cM t)
  rw [hy, hm, hd, hh, hi, hs] at k1 ⊢
  rw [hy, hm] at db
  have cb2 : (1970 ≤ y ∧ y ≤ 9999) ∧ (1 ≤ m ∧ m ≤ 12) ∧ (1 ≤ d ∧ d ≤ 31) ∧ (0 ≤ h ∧ h ≤ 23) ∧ (0 ≤ i ∧ i ≤ 59) ∧ (0 ≤ s ∧ s ≤ 59) := by
    rw [hy, hm, hd] at cy
    omega
  obtain ⟨c1, c2, c3, c4, c5, c6⟩ := cb2
  clear hy hm hd hh hi hs cb cy db g
  have z4 : ∀ a b c d : Int, (strOfNums [a, b, c, d]).size = 4 := fun _ _ _ _ => rfl
  have z2 : ∀ a b : Int, (strOfNums [a, b]).size = 2 := fun _ _ => rfl
  have z1 : (ByteArray.mk #[45]).size = 1 ∧ (ByteArray.mk #[32]).size = 1 ∧ (ByteArray.mk #[58]).size = 1 := ⟨rfl, rfl, rfl⟩
  go_enter Tryd.func23, Tryd.ntmps23
  go_wp2_with (first
    | (go_at_call 19; refine (k1 _).mono ?_; rintro e w1 ⟨rfl, hq1⟩))
  go_region_held3 (fun w' => w'.cell? ⟨w1.heap.size, 0, none⟩ = some (.int .i64 y) ∧ w'.cell? ⟨w1.heap.size, 1, none⟩ = some (.int .i64 m) ∧ w'.cell? ⟨w1.heap.size, 2, none⟩ = some (.int .i64 d) ∧ w'.cell? ⟨w1.heap.size, 3, none⟩ = some (.int .i64 h) ∧ w'.cell? ⟨w1.heap.size, 4, none⟩ = some (.int .i64 i) ∧ w'.cell? ⟨w1.heap.size, 5, none⟩ = some (.int .i64 s)) (go_keep) (first
    | (go_at_call 40; with_reducible refine (keep6 w1.heap.size (.int .i64 y) (.int .i64 m) (.int .i64 d) (.int .i64 h) (.int .i64 i) (.int .i64 s) (digits4 y (by omega) _) ?_).mono ?_; (refine ⟨?_, ?_, ?_, ?_, ?_, ?_, ?_⟩ <;> first | assumption | simp); rintro e v1 ⟨rfl, hv1, a10, a11, a12, a13, a14, a15, a16⟩)
    | (go_at_call 40; with_reducible refine (keep6 w1.heap.size (.int .i64 y) (.int .i64 m) (.int .i64 d) (.int .i64 h) (.int .i64 i) (.int .i64 s) (digits2 m (by omega) _) ?_).mono ?_; (refine ⟨?_, ?_, ?_, ?_, ?_, ?_, ?_⟩ <;> first | assumption | simp); rintro e v2 ⟨rfl, hv2, a20, a21, a22, a23, a24, a25, a26⟩)
    | (go_at_call 40; with_reducible refine (keep6 w1.heap.size (.int .i64 y) (.int .i64 m) (.int .i64 d) (.int .i64 h) (.int .i64 i) (.int .i64 s) (digits2 d (by omega) _) ?_).mono ?_; (refine ⟨?_, ?_, ?_, ?_, ?_, ?_, ?_⟩ <;> first | assumption | simp); rintro e v3 ⟨rfl, hv3, a30, a31, a32, a33, a34, a35, a36⟩))
  all_goals
    go_wp2_with fail
  go_region_held3 (fun w' => w'.cell? ⟨w1.heap.size, 0, none⟩ = some (.int .i64 y) ∧ w'.cell? ⟨w1.heap.size, 1, none⟩ = some (.int .i64 m) ∧ w'.cell? ⟨w1.heap.size, 2, none⟩ = some (.int .i64 d) ∧ w'.cell? ⟨w1.heap.size, 3, none⟩ = some (.int .i64 h) ∧ w'.cell? ⟨w1.heap.size, 4, none⟩ = some (.int .i64 i) ∧ w'.cell? ⟨w1.heap.size, 5, none⟩ = some (.int .i64 s)) (go_keep) (first
    | (go_at_call 40; with_reducible refine (keep6 w1.heap.size (.int .i64 y) (.int .i64 m) (.int .i64 d) (.int .i64 h) (.int .i64 i) (.int .i64 s) (digits2 h (by omega) _) ?_).mono ?_; (refine ⟨?_, ?_, ?_, ?_, ?_, ?_, ?_⟩ <;> first | assumption | (simp; assumption)); rintro e v4 ⟨rfl, hv4, a40, a41, a42, a43, a44, a45, a46⟩)
    | (go_at_call 40; with_reducible refine (keep6 w1.heap.size (.int .i64 y) (.int .i64 m) (.int .i64 d) (.int .i64 h) (.int .i64 i) (.int .i64 s) (digits2 i (by omega) _) ?_).mono ?_; (refine ⟨?_, ?_, ?_, ?_, ?_, ?_, ?_⟩ <;> first | assumption | simp); rintro e v5 ⟨rfl, hv5, a50, a51, a52, a53, a54, a55, a56⟩)
    | (go_at_call 40; with_reducible refine (keep6 w1.heap.size (.int .i64 y) (.int .i64 m) (.int .i64 d) (.int .i64 h) (.int .i64 i) (.int .i64 s) (digits2 s (by omega) _) ?_).mono ?_; (refine ⟨?_, ?_, ?_, ?_, ?_, ?_, ?_⟩ <;> first | assumption | simp); rintro e v6 ⟨rfl, hv6, a60, a61, a62, a63, a64, a65, a66⟩))
  all_goals
    go_wp2_with fail
    go_ret2
    rw [txt_two]
    exact ⟨rfl, by repeat (first | exact Q.refl _ | assumption | refine Q.alloc ?_ _ | refine Q.drew ?_ | refine Q.drewN ?_ _ | refine Q.trans ?_ (by assumption))⟩
theorem rtext_bad (t : Int) (g : ¬ Cal.timeOk t) (w : World) :
    Calls Tryd.prog 23 #[.int .i64 t] w fun e w' => e = .returned (.tuple #[.string ⟨#[]⟩, .int .i64 14]) ∧ Q w w' := by
  have k1 := fun w2 => rof_bad t g w2
  clear g
  go_enter Tryd.func23, Tryd.ntmps23
  go_wp2_with (first
    | (go_at_call 19; refine (k1 _).mono ?_; rintro e w1 ⟨rfl, hq1⟩))
  go_ret2
  exact ⟨rfl, by repeat (first | exact Q.refl _ | assumption | refine Q.alloc ?_ _ | refine Q.drew ?_ | refine Q.trans ?_ (by assumption))⟩
/-- the text of any number -/
def tx (t : Int) : ByteArray := if Cal.timeOk t then txt (Cal.cY t) (Cal.cM t) (Cal.cD t) (Cal.cH t) (Cal.cI t) (Cal.cS t) else ⟨#[]⟩
theorem text_any (t : Int) (w : World) (ht : Tab w) :
    Calls Tryd.prog 22 #[.int .i64 t] w fun e w' => e = .returned (.tuple #[.string (tx t), .int .i64 (Cal.ofE t)]) ∧ Q w w' := by
  unfold tx Cal.ofE
  by_cases g : Cal.timeOk t
  · rw [if_pos g, if_pos g]; exact text_good t g w ht
  · rw [if_neg g, if_neg g]; exact text_bad t g w
theorem rtext_any (t : Int) (w : World) :
    Calls Tryd.prog 23 #[.int .i64 t] w fun e w' => e = .returned (.tuple #[.string (tx t), .int .i64 (Cal.ofE t)]) ∧ Q w w' := by
  unfold tx Cal.ofE
  by_cases g : Cal.timeOk t
  · rw [if_pos g, if_pos g]; exact rtext_good t g w
  · rw [if_neg g, if_neg g]; exact rtext_bad t g w
end Go.Proofs.YtdhlgmclogdplaaDoor
