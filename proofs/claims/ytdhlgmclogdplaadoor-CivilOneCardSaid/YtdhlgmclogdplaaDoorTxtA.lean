/- The contracts of civil.two and civil.Text. -/
import Derived.Test.YtdhlgmclogdplaaDoorCivC
import Derived.Test.YtdhlgmclogdplaaDoorShelf
import Derived.Laws.BytesArg
import Derived.Lib.SmallJoins
import Derived.Lib.AppendIntMem
import Derived.Deep.RegionHeld3
import Derived.Outline
namespace Go.Proofs.YtdhlgmclogdplaaDoor
open Go.RowKit
set_option linter.unusedVariables false
set_option linter.unusedSimpArgs false
theorem qcell {W w1 : World} (hb : Q W w1) : (∀ b o, b < W.heap.size → w1.cell? ⟨b, o, none⟩ = W.cell? ⟨b, o, none⟩) ∧ (∀ b o, b < W.heap.size → w1.frozen? ⟨b, o, none⟩ = W.frozen? ⟨b, o, none⟩) ∧ W.heap.size ≤ w1.heap.size :=
  ⟨fun b o h => hb.cell (p := ⟨b, o, none⟩) h, fun b o h => hb.frozen (p := ⟨b, o, none⟩) h, hb.size⟩
/-- the table of powers of ten lies as the program's text lays it -/
def Tab (w : World) : Prop := Lib.TabIs Tryd.prog w "internal/strconv.uint64pow10" .u64 Lib.pow10Tab
theorem Tab.later {a b : World} (h : Tab a) (q : Q a b) : Tab b := Lib.tabBelow_of_tabIs h b q
theorem Q.grow {a b : World} (h : Q a b) (k : Nat) (os : Array Obj) : Q a (Go.Sort.grow (b.drewN k) os) := by
  refine h.trans ?_
  exact ⟨rfl, rfl, rfl, by show b.heap.size ≤ (b.heap ++ os).size; rw [Array.size_append]; omega, fun j hj => by
    show (b.heap ++ os)[j]? = b.heap[j]?
    rw [Array.getElem?_append_left hj]⟩
theorem itoa4 (y : Int) (h : 1000 ≤ y ∧ y ≤ 9999) : (⟨(Lib.itoa y).toArray⟩ : ByteArray) = strOfNums [48 + y / 1000, 48 + y / 100 % 10, 48 + y / 10 % 10, 48 + y % 10] := by
  obtain ⟨n, rfl⟩ := Int.eq_ofNat_of_zero_le (show 0 ≤ y by omega)
  have e : Lib.itoa (n : Int) = Lib.decDigits n := by unfold Lib.itoa; rw [if_neg (by omega)]; rfl
  rw [e, Lib.decDigits, dif_neg (by omega), Lib.decDigits, dif_neg (by omega), Lib.decDigits, dif_neg (by omega), Lib.decDigits, dif_pos (by omega)]
  unfold strOfNums
  simp only [List.map_cons, List.map_nil, List.append_assoc, List.cons_append, List.nil_append]
  congr 4
  all_goals
    first | omega | (congr 1 <;> first | omega | (congr 1 <;> first | omega | (congr 1 <;> omega)))
theorem conv3 (w : World) (a b c : Int) : (convert 40 9 (.slice (some ⟨w.heap.size, 0, none⟩) 3 3)).run Tryd.prog (w.alloc (.cells #[.int .u8 a, .int .u8 b, .int .u8 c] 5)) = .ok (.string (strOfNums [a, b, c])) (w.alloc (.cells #[.int .u8 a, .int .u8 b, .int .u8 c] 5)) :=
  run_convert_bytes_arg (P := Tryd.prog) _ 40 5 Tryd.underlying40 Tryd.underlying5 w.heap.size 0 3 3 [a, b, c] rfl (by
    intro i hi
    match i, hi with
    | 0, _ => simp
    | 1, _ => simp
    | 2, _ => simp) 9 Tryd.underlying9
theorem two_any (a n : Int) (h : 0 ≤ n ∧ n ≤ 99) (w : World) :
    Calls Tryd.prog 39 #[.int .u8 a, .int .i64 n] w fun e w' => e = .returned (.string (strOfNums [a, 48 + n / 10, 48 + n % 10])) ∧ Q w w' := by
  have hcv := conv3 w a (48 + n / 10) (48 + n % 10)
  go_enter Tryd.func39, Tryd.ntmps39
  go_wp2_with fail
  go_ret
  exact ⟨rfl, (Q.refl _).alloc _⟩
/-- the text of a civil time -/
def txt (y m d h i s : Int) : ByteArray := strOfNums [48 + y / 1000, 48 + y / 100 % 10, 48 + y / 10 % 10, 48 + y % 10, 45, 48 + m / 10, 48 + m % 10, 45, 48 + d / 10, 48 + d % 10, 32, 48 + h / 10, 48 + h % 10, 58, 48 + i / 10, 48 + i % 10, 58, 48 + s / 10, 48 + s % 10]
theorem itoa_any (y : Int) (h : 1000 ≤ y ∧ y ≤ 9999) (w : World) (ht : Tab w) :
    Calls Tryd.prog 38 #[.int .i64 y] w fun e w' => e = .returned (.string (strOfNums [48 + y / 1000, 48 + y / 100 % 10, 48 + y / 10 % 10, 48 + y % 10])) ∧ Q w w' := by
  refine (Tryd.strconv_Itoa y (by omega) (by omega) w ht).mono ?_
  rintro e w' ⟨rfl, k, os, rfl⟩
  exact ⟨by rw [itoa4 y h], (Q.refl w).grow k os⟩
theorem str_app (a b : List Int) : strOfNums a ++ strOfNums b = strOfNums (a ++ b) := by
  apply ByteArray.ext
  simp [strOfNums]
theorem keep6 {P : Program} {f : Nat} {args : Array Value} {v : Ending} {w2 : World} (B : Nat) (x0 x1 x2 x3 x4 x5 : Value) (k : Calls P f args w2 fun e w' => e = v ∧ Q w2 w')
    (h : w2.cell? ⟨B, 0, none⟩ = some x0 ∧ w2.cell? ⟨B, 1, none⟩ = some x1 ∧ w2.cell? ⟨B, 2, none⟩ = some x2 ∧ w2.cell? ⟨B, 3, none⟩ = some x3 ∧ w2.cell? ⟨B, 4, none⟩ = some x4 ∧ w2.cell? ⟨B, 5, none⟩ = some x5 ∧ B < w2.heap.size) :
    Calls P f args w2 fun e w' => e = v ∧ Q w2 w' ∧ w'.cell? ⟨B, 0, none⟩ = some x0 ∧ w'.cell? ⟨B, 1, none⟩ = some x1 ∧ w'.cell? ⟨B, 2, none⟩ = some x2 ∧ w'.cell? ⟨B, 3, none⟩ = some x3 ∧ w'.cell? ⟨B, 4, none⟩ = some x4 ∧ w'.cell? ⟨B, 5, none⟩ = some x5 ∧ B < w'.heap.size := by
  obtain ⟨h0, h1, h2, h3, h4, h5, h6⟩ := h
  exact k.mono fun e w' ⟨a, q⟩ => ⟨a, q, (q.cell (p := ⟨B, 0, none⟩) h6).trans h0, (q.cell (p := ⟨B, 1, none⟩) h6).trans h1, (q.cell (p := ⟨B, 2, none⟩) h6).trans h2, (q.cell (p := ⟨B, 3, none⟩) h6).trans h3, (q.cell (p := ⟨B, 4, none⟩) h6).trans h4, (q.cell (p := ⟨B, 5, none⟩) h6).trans h5, Nat.lt_of_lt_of_le h6 q.size⟩
theorem txt_app (y m d h i s : Int) : txt y m d h i s = strOfNums [48 + y / 1000, 48 + y / 100 % 10, 48 + y / 10 % 10, 48 + y % 10] ++ strOfNums [45, 48 + m / 10, 48 + m % 10] ++ strOfNums [45, 48 + d / 10, 48 + d % 10] ++ strOfNums [32, 48 + h / 10, 48 + h % 10] ++ strOfNums [58, 48 + i / 10, 48 + i % 10] ++ strOfNums [58, 48 + s / 10, 48 + s % 10] := by
  simp only [str_app]; rfl
set_option maxHeartbeats 2000000 in
theorem text_good (t : Int) (g : Cal.timeOk t) (w : World) (ht : Tab w) :
    Calls Tryd.prog 22 #[.int .i64 t] w fun e w' => e = .returned (.tuple #[.string (txt (Cal.cY t) (Cal.cM t) (Cal.cD t) (Cal.cH t) (Cal.cI t) (Cal.cS t)), .int .i64 0]) ∧ Q w w' := by
  have k1 := fun w2 => of_good t g w2
  have cb := Cal.c_bd g
  have cy := (Cal.good_of g).1.1
  unfold Cal.Valid at cy
  obtain ⟨y, hy⟩ : ∃ x, Cal.cY t = x := ⟨_, rfl⟩
  obtain ⟨m, hm⟩ : ∃ x, Cal.cM t = x := ⟨_, rfl⟩
  obtain ⟨d, hd⟩ : ∃ x, Cal.cD t = x := ⟨_, rfl⟩
  obtain ⟨h, hh⟩ : ∃ x, Cal.cH t = x := ⟨_, rfl⟩
  obtain ⟨i, hi⟩ : ∃ x, Cal.cI t = x := ⟨_, rfl⟩
  obtain ⟨s, hs⟩ : ∃ x, Cal.cS t = x := ⟨_, rfl⟩
  have db := Cal.dim_bd (Cal.cY t) (Cal.cM t)
  rw [hy, hm, hd, hh, hi, hs] at k1 ⊢
  rw [hy, hm] at db
  have cb2 : (1970 ≤ y ∧ y ≤ 9999) ∧ (1 ≤ m ∧ m ≤ 12) ∧ (1 ≤ d ∧ d ≤ 31) ∧ (0 ≤ h ∧ h ≤ 23) ∧ (0 ≤ i ∧ i ≤ 59) ∧ (0 ≤ s ∧ s ≤ 59) := by
    rw [hy, hm, hd] at cy
    omega
  obtain ⟨c1, c2, c3, c4, c5, c6⟩ := cb2
  clear hy hm hd hh hi hs cb cy db g
  have z1 : (strOfNums [48 + y / 1000, 48 + y / 100 % 10, 48 + y / 10 % 10, 48 + y % 10]).size = 4 := rfl
  have z2 : (strOfNums [45, 48 + m / 10, 48 + m % 10]).size = 3 := rfl
  have z3 : (strOfNums [45, 48 + d / 10, 48 + d % 10]).size = 3 := rfl
  have z4 : (strOfNums [32, 48 + h / 10, 48 + h % 10]).size = 3 := rfl
  have z5 : (strOfNums [58, 48 + i / 10, 48 + i % 10]).size = 3 := rfl
  have z6 : (strOfNums [58, 48 + s / 10, 48 + s % 10]).size = 3 := rfl
  rw [txt_app]
  go_enter Tryd.func22, Tryd.ntmps22
  go_wp2_with (first
    | (go_at_call 18; refine (k1 _).mono ?_; rintro e w1 ⟨rfl, hq1⟩))
  go_region_held3 (fun w' => w'.cell? ⟨w1.heap.size, 0, none⟩ = some (.int .i64 y) ∧ w'.cell? ⟨w1.heap.size, 1, none⟩ = some (.int .i64 m) ∧ w'.cell? ⟨w1.heap.size, 2, none⟩ = some (.int .i64 d) ∧ w'.cell? ⟨w1.heap.size, 3, none⟩ = some (.int .i64 h) ∧ w'.cell? ⟨w1.heap.size, 4, none⟩ = some (.int .i64 i) ∧ w'.cell? ⟨w1.heap.size, 5, none⟩ = some (.int .i64 s)) (go_keep) (first
    | (go_at_call 38; with_reducible refine (keep6 w1.heap.size (.int .i64 y) (.int .i64 m) (.int .i64 d) (.int .i64 h) (.int .i64 i) (.int .i64 s) (itoa_any y (by omega) _ (Tab.later ht ((hq1.alloc _).drew))) ?_).mono ?_; (refine ⟨?_, ?_, ?_, ?_, ?_, ?_, ?_⟩ <;> simp); rintro e v1 ⟨rfl, hq11, a10, a11, a12, a13, a14, a15, a16⟩)
    | (go_at_call 39; with_reducible refine (keep6 w1.heap.size (.int .i64 y) (.int .i64 m) (.int .i64 d) (.int .i64 h) (.int .i64 i) (.int .i64 s) (two_any 45 m (by omega) _) ?_).mono ?_; (refine ⟨?_, ?_, ?_, ?_, ?_, ?_, ?_⟩ <;> assumption); rintro e v2 ⟨rfl, hq2, a20, a21, a22, a23, a24, a25, a26⟩)
    | (go_at_call 39; with_reducible refine (keep6 w1.heap.size (.int .i64 y) (.int .i64 m) (.int .i64 d) (.int .i64 h) (.int .i64 i) (.int .i64 s) (two_any 45 d (by omega) _) ?_).mono ?_; (refine ⟨?_, ?_, ?_, ?_, ?_, ?_, ?_⟩ <;> assumption); rintro e v3 ⟨rfl, hq3, a30, a31, a32, a33, a34, a35, a36⟩)
    | (go_at_call 39; with_reducible refine (keep6 w1.heap.size (.int .i64 y) (.int .i64 m) (.int .i64 d) (.int .i64 h) (.int .i64 i) (.int .i64 s) (two_any 32 h (by omega) _) ?_).mono ?_; (refine ⟨?_, ?_, ?_, ?_, ?_, ?_, ?_⟩ <;> assumption); rintro e v4 ⟨rfl, hq4, a40, a41, a42, a43, a44, a45, a46⟩)
    | (go_at_call 39; with_reducible refine (keep6 w1.heap.size (.int .i64 y) (.int .i64 m) (.int .i64 d) (.int .i64 h) (.int .i64 i) (.int .i64 s) (two_any 58 i (by omega) _) ?_).mono ?_; (refine ⟨?_, ?_, ?_, ?_, ?_, ?_, ?_⟩ <;> assumption); rintro e v5 ⟨rfl, hq5, a50, a51, a52, a53, a54, a55, a56⟩)
    | (go_at_call 39; with_reducible refine (keep6 w1.heap.size (.int .i64 y) (.int .i64 m) (.int .i64 d) (.int .i64 h) (.int .i64 i) (.int .i64 s) (two_any 58 s (by omega) _) ?_).mono ?_; (refine ⟨?_, ?_, ?_, ?_, ?_, ?_, ?_⟩ <;> assumption); rintro e v6 ⟨rfl, hq6, a60, a61, a62, a63, a64, a65, a66⟩))
  all_goals
    go_wp2_with fail
    go_ret2
    exact ⟨rfl, by repeat (first | exact Q.refl _ | assumption | refine Q.alloc ?_ _ | refine Q.drew ?_ | refine Q.drewN ?_ _ | refine Q.trans ?_ (by assumption))⟩
theorem text_bad (t : Int) (g : ¬ Cal.timeOk t) (w : World) :
    Calls Tryd.prog 22 #[.int .i64 t] w fun e w' => e = .returned (.tuple #[.string ⟨#[]⟩, .int .i64 14]) ∧ Q w w' := by
  have k1 := fun w2 => of_bad t g w2
  clear g
  go_enter Tryd.func22, Tryd.ntmps22
  go_wp2_with (first
    | (go_at_call 18; refine (k1 _).mono ?_; rintro e w1 ⟨rfl, hq1⟩))
  go_ret2
  exact ⟨rfl, by repeat (first | exact Q.refl _ | assumption | refine Q.alloc ?_ _ | refine Q.drew ?_ | refine Q.trans ?_ (by assumption))⟩
end Go.Proofs.YtdhlgmclogdplaaDoor
