/- The contracts of Text: the program's, the document's. -/
import Derived.Test.YtadfdkhgjjehnaaDoorMisD
import Derived.Test.YtadfdkhgjjehnaaDoorShelf
import Derived.Laws.BytesArg
import Derived.Lib.SmallJoins
import Derived.Lib.ItoaMem
import Derived.Lib.ItoaNum
namespace Go.Proofs.YtadfdkhgjjehnaaDoor
open Go.RowKit
set_option linter.unusedVariables false
set_option linter.unusedSimpArgs false
/-- the table of powers of ten lies as the program's text lays it -/
def Tab (w : World) : Prop := Lib.TabIs Tryd.prog w "internal/strconv.uint64pow10" .u64 Lib.pow10Tab
theorem Tab.later {a b : World} (h : Tab a) (q : Q a b) : Tab b := Lib.tabBelow_of_tabIs h b q
theorem str_app (a b : List Int) : strOfNums a ++ strOfNums b = strOfNums (a ++ b) := by
  apply ByteArray.ext
  simp [strOfNums]
theorem conv1 (w : World) (a : Int) : (convert 80 9 (.slice (some ⟨w.heap.size, 0, none⟩) 1 1)).run Tryd.prog (w.alloc (.cells #[.int .u8 a] 5)) = .ok (.string (strOfNums [a])) (w.alloc (.cells #[.int .u8 a] 5)) :=
  run_convert_bytes_arg (P := Tryd.prog) _ 80 5 Tryd.underlying80 Tryd.underlying5 w.heap.size 0 1 1 [a] rfl (by
    intro i hi
    match i, hi with
    | 0, _ => simp) 9 Tryd.underlying9
/-- the last digits of a number -/
def dgs (n : Int) : Nat → List Int
  | 0 => []
  | k + 1 => (48 + n / 10 ^ k % 10) :: dgs n k
theorem dgs_len (n : Int) (k : Nat) : (dgs n k).length = k := by
  induction k with
  | zero => rfl
  | succ k ih => simp [dgs, ih]
theorem strOf_size (l : List Int) : (strOfNums l).size = l.length := by
  show (List.toArray _).size = _
  simp
theorem dgs_size (n : Int) (k : Nat) : (strOfNums (dgs n k)).size = k := by rw [strOf_size, dgs_len]
/-- how many digits -/
def nz (n : Int) : Nat := if n < 10 then 1 else if n < 100 then 2 else 3
theorem nz_end {n : Int} (h : 1 ≤ n ∧ n ≤ 100) : n / 10 ^ nz n = 0 := by
  unfold nz; (repeat' split) <;> simp <;> omega
theorem nz_mid {n : Int} (h : 1 ≤ n ∧ n ≤ 100) {k : Nat} (hk : k < nz n) : n / 10 ^ k ≠ 0 := by
  have : nz n ≤ 3 := by unfold nz; (repeat' split) <;> omega
  unfold nz at hk
  match k, this with
  | 0, _ => simp; omega
  | 1, _ => split at hk <;> simp <;> omega
  | 2, _ => (repeat' split at hk) <;> simp <;> omega
  | k + 3, _ => (repeat' split at hk) <;> omega
theorem bs_t {a b : ByteArray} (h : a = b) : (a.toList == b.toList) = true := by rw [h]; simp
theorem bs_f {a b : ByteArray} (h : a ≠ b) : (a.toList == b.toList) = false := by
  rw [ByteArray.toList_eq, ByteArray.toList_eq, beq_eq_false_iff_ne]
  intro e
  apply h
  obtain ⟨⟨x⟩⟩ := a
  obtain ⟨⟨y⟩⟩ := b
  simp at e
  rw [e]
theorem strOf_ne {l : List Int} (h : 0 < l.length) : ((strOfNums l).toList == (⟨#[]⟩ : ByteArray).toList) = false := by
  refine bs_f (fun e => ?_)
  have := congrArg ByteArray.size e
  rw [strOf_size] at this
  have h0 : (⟨#[]⟩ : ByteArray).size = 0 := rfl
  omega
theorem strOf_em {l : List Int} (h : 0 < l.length) : (strOfNums l).toList.isEmpty = false := by
  rw [ByteArray.toList_eq]
  unfold strOfNums
  cases l with
  | nil => simp at h
  | cons a t => simp
set_option maxRecDepth 20000 in
theorem digits_any (n : Int) (hn : 1 ≤ n ∧ n ≤ 100) (w : World) :
    Calls Tryd.prog 42 #[.int .i64 n] w fun e w' => e = .returned (.string (strOfNums (dgs n (nz n)))) ∧ Q w w' := by
  have he := nz_end hn
  have hm := fun k hk => nz_mid (k := k) hn hk
  have hz : 1 ≤ nz n ∧ nz n ≤ 3 := by unfold nz; (repeat' split) <;> omega
  generalize nz n = z at *
  have HE := Lib.hid he; have HM := Lib.hid hm
  clear he hm
  have y0 : decide (n < 0) = false := by simp; omega
  go_enter Tryd.func42, Tryd.ntmps42
  go_wp2_with fail
  go_loopw [3, 4] (fun vo vn wr => ∃ k : Nat, k ≤ z ∧ vn = .int .i64 (n / 10 ^ k) ∧ vo = .string (strOfNums (dgs n k)) ∧ Q w wr) (fun _ vn _ => (intOf vn).toNat)
  case atStart => exact ⟨0, by omega, by simp, rfl, Q.refl _⟩
  case round =>
    obtain ⟨k, hk, rfl, rfl, hq⟩ := hrel
    rcases Nat.lt_or_ge k z with hlt | hge
    · have hc := conv1 wr (48 + n / 10 ^ k % 10)
      have hnx : n / 10 ^ (k + 1) = n / 10 ^ k / 10 := by
        rw [Int.pow_succ, Int.ediv_ediv_of_nonneg]
        exact Int.pow_nonneg (by decide)
      have hap : strOfNums [48 + n / 10 ^ k % 10] ++ strOfNums (dgs n k) = strOfNums (dgs n (k + 1)) := by rw [str_app]; rfl
      have hmm := HM.out k hlt
      obtain ⟨m, hm⟩ : ∃ x, n / 10 ^ k = x := ⟨_, rfl⟩
      have hm0 : 0 ≤ m ∧ m ≤ 100 := by
        have h1 : 0 ≤ n / 10 ^ k := Int.ediv_nonneg (by omega) (Int.pow_nonneg (by decide))
        have h2 : n / 10 ^ k ≤ n := Int.ediv_le_self _ (by omega)
        omega
      rw [hm] at hc hnx hap hmm ⊢
      have z1 : (strOfNums [48 + m % 10]).size = 1 := rfl
      have z2 : (strOfNums (dgs n k)).size = k := dgs_size n k
      obtain ⟨U, hU⟩ : ∃ x, strOfNums (dgs n k) = x := ⟨_, rfl⟩
      rw [hU] at hap z2 ⊢
      have y1 : (m != 0) = true := bne_t hmm
      go_wp2_with fail
      go_roundw
      case rel => exact ⟨k + 1, by omega, by rw [hnx], by rw [← hap], by repeat (first | exact Q.refl _ | assumption | refine Q.alloc ?_ _ | refine Q.drew ?_ | refine Q.drewN ?_ _ | refine Q.trans ?_ (by assumption))⟩
      case measure => simp [intOf]; omega
    · have hkz : k = z := by omega
      subst hkz
      have y1 : (n / 10 ^ k != 0) = false := bne_f HE.out
      have y2 := strOf_em (l := dgs n k) (by rw [dgs_len]; omega)
      rw [HE.out]
      go_wp2_with fail
      go_ret
      exact ⟨rfl, hq⟩
theorem itoa_dgs (n : Int) (h : 1 ≤ n ∧ n ≤ 100) : (⟨(Lib.itoa n).toArray⟩ : ByteArray) = strOfNums (dgs n (nz n)) := by
  obtain ⟨k, rfl⟩ := Int.eq_ofNat_of_zero_le (show 0 ≤ n by omega)
  rw [show Lib.itoa ((k : Nat) : Int) = Lib.decDigits k from by unfold Lib.itoa; rw [if_neg (by omega)]; rfl]
  obtain ⟨h1, h2⟩ := h
  have u (x : Int) (y : Nat) (e : x = y) : UInt8.ofNat x.toNat = UInt8.ofNat y := by rw [e]; rfl
  by_cases a : k < 10
  · rw [Lib.decDigits_one a, show nz (k : Int) = 1 from by unfold nz; rw [if_pos (by omega)]]
    simp only [dgs, strOfNums, List.map_cons, List.map_nil]
    rw [u (48 + (k : Int) / 10 ^ 0 % 10) (48 + k) (by simp; omega)]
  · by_cases b : k < 100
    · rw [Lib.decDigits_two a b, show nz (k : Int) = 2 from by unfold nz; rw [if_neg (by omega), if_pos (by omega)]]
      simp only [dgs, strOfNums, List.map_cons, List.map_nil]
      rw [u (48 + (k : Int) / 10 ^ 0 % 10) (48 + k % 10) (by simp), u (48 + (k : Int) / 10 ^ 1 % 10) (48 + k / 10) (by simp; omega)]
    · obtain rfl : k = 100 := by omega
      rw [show nz ((100 : Nat) : Int) = 3 from rfl]
      rw [Lib.decDigits, dif_neg (by omega), Lib.decDigits_two (by omega) (by omega)]
      rfl
/-- the text of a policy -/
def mt (p k : Int) : ByteArray := if p = 0 then ⟨#[100, 114, 111, 112]⟩ else if p = 1 then ⟨#[108, 97, 115, 116]⟩ else if p = 2 then ⟨#[97, 108, 108]⟩ else ⟨#[115, 111, 109, 101, 58]⟩ ++ strOfNums (dgs k (nz k))
def tx (p k : Int) : ByteArray := if Mf.chkE p k = 0 then mt p k else ⟨#[]⟩
theorem rtext_any (p k : Int) (w : World) :
    Calls Tryd.prog 29 #[.int .i64 p, .int .i64 k] w fun e w' => e = .returned (.tuple #[.string (tx p k), .int .i64 (Mf.chkE p k)]) ∧ Q w w' := by
  have kc := fun w2 => rcheck_any p k w2
  unfold tx
  rcases chk_vals p k with h | h
  · rw [if_pos h]
    rw [h] at kc ⊢
    have kk := chk_cases h
    clear h
    rcases kk with ⟨rfl, rfl⟩ | ⟨rfl, rfl⟩ | ⟨rfl, rfl⟩ | ⟨rfl, h1, h2⟩
    · rw [show mt 0 0 = ⟨#[100, 114, 111, 112]⟩ from rfl]
      go_enter Tryd.func29, Tryd.ntmps29
      go_wp2_with (go_at_call 20; refine (kc _).mono ?_; rintro e w1 ⟨rfl, rfl⟩)
      exact bodyPost_ret (v := .tuple #[.string ⟨#[100, 114, 111, 112]⟩, .int .i64 0]) (by simp [results, Tryd.results29, go_sem]) rfl ⟨rfl, by repeat (first | exact Q.refl _ | assumption | refine Q.alloc ?_ _ | refine Q.drew ?_ | refine Q.drewN ?_ _ | refine Q.trans ?_ (by assumption))⟩
    · rw [show mt 1 0 = ⟨#[108, 97, 115, 116]⟩ from rfl]
      go_enter Tryd.func29, Tryd.ntmps29
      go_wp2_with (go_at_call 20; refine (kc _).mono ?_; rintro e w1 ⟨rfl, rfl⟩)
      exact bodyPost_ret (v := .tuple #[.string ⟨#[108, 97, 115, 116]⟩, .int .i64 0]) (by simp [results, Tryd.results29, go_sem]) rfl ⟨rfl, by repeat (first | exact Q.refl _ | assumption | refine Q.alloc ?_ _ | refine Q.drew ?_ | refine Q.drewN ?_ _ | refine Q.trans ?_ (by assumption))⟩
    · rw [show mt 2 0 = ⟨#[97, 108, 108]⟩ from rfl]
      go_enter Tryd.func29, Tryd.ntmps29
      go_wp2_with (go_at_call 20; refine (kc _).mono ?_; rintro e w1 ⟨rfl, rfl⟩)
      exact bodyPost_ret (v := .tuple #[.string ⟨#[97, 108, 108]⟩, .int .i64 0]) (by simp [results, Tryd.results29, go_sem]) rfl ⟨rfl, by repeat (first | exact Q.refl _ | assumption | refine Q.alloc ?_ _ | refine Q.drew ?_ | refine Q.drewN ?_ _ | refine Q.trans ?_ (by assumption))⟩
    · have hm : mt 3 k = ⟨#[115, 111, 109, 101, 58]⟩ ++ strOfNums (dgs k (nz k)) := rfl
      have kd := fun w2 => digits_any k ⟨h1, h2⟩ w2
      have hz : nz k ≤ 3 := by unfold nz; (repeat' split) <;> omega
      have z2 : (strOfNums (dgs k (nz k))).size ≤ 3 := by rw [dgs_size]; exact hz
      rw [hm]
      clear hm hz
      generalize strOfNums (dgs k (nz k)) = U at *
      have z1 : (⟨#[115, 111, 109, 101, 58]⟩ : ByteArray).size = 5 := rfl
      obtain ⟨V, hV⟩ : ∃ x, (⟨#[115, 111, 109, 101, 58]⟩ : ByteArray) ++ U = x := ⟨_, rfl⟩
      rw [hV]
      go_enter Tryd.func29, Tryd.ntmps29
      go_wp2_with (first
        | (go_at_call 20; refine (kc _).mono ?_; rintro e w1 ⟨rfl, rfl⟩)
        | (go_at_call 42; refine (kd _).mono ?_; rintro e w2 ⟨rfl, hq2⟩))
      exact bodyPost_ret (v := .tuple #[.string V, .int .i64 0]) (by simp [results, Tryd.results29, go_sem]) rfl ⟨rfl, by repeat (first | exact Q.refl _ | assumption | refine Q.alloc ?_ _ | refine Q.drew ?_ | refine Q.drewN ?_ _ | refine Q.trans ?_ (by assumption))⟩
  · rw [if_neg (by omega)]
    rw [h] at kc ⊢
    clear h
    go_enter Tryd.func29, Tryd.ntmps29
    go_wp2_with (go_at_call 20; refine (kc _).mono ?_; rintro e w1 ⟨rfl, rfl⟩)
    exact bodyPost_ret (v := .tuple #[.string ⟨#[]⟩, .int .i64 2]) (by simp [results, Tryd.results29, go_sem]) rfl ⟨rfl, by repeat (first | exact Q.refl _ | assumption | refine Q.alloc ?_ _ | refine Q.drew ?_ | refine Q.drewN ?_ _ | refine Q.trans ?_ (by assumption))⟩
theorem itoa_any (k : Int) (h : 1 ≤ k ∧ k ≤ 100) (w : World) (ht : Tab w) :
    Calls Tryd.prog 41 #[.int .i64 k] w fun e w' => e = .returned (.string (strOfNums (dgs k (nz k)))) ∧ Q w w' := by
  refine (Tryd.strconv_Itoa k (by omega) (by omega) w ht).mono ?_
  rintro e w' ⟨rfl, n, os, rfl⟩
  exact ⟨by rw [itoa_dgs k h], (Q.refl w).grow n os⟩
theorem text_any (p k : Int) (w : World) (hT : Tab w) :
    Calls Tryd.prog 28 #[.int .i64 p, .int .i64 k] w fun e w' => e = .returned (.tuple #[.string (tx p k), .int .i64 (Mf.chkE p k)]) ∧ Q w w' := by
  have kc := fun w2 => check_any p k w2
  unfold tx
  rcases chk_vals p k with h | h
  · rw [if_pos h]
    rw [h] at kc ⊢
    have kk := chk_cases h
    clear h
    rcases kk with ⟨rfl, rfl⟩ | ⟨rfl, rfl⟩ | ⟨rfl, rfl⟩ | ⟨rfl, h1, h2⟩
    · rw [show mt 0 0 = ⟨#[100, 114, 111, 112]⟩ from rfl]
      go_enter Tryd.func28, Tryd.ntmps28
      go_wp2_with (first
        | (go_at_call 19; refine (kc _).mono ?_; rintro e w1 ⟨rfl, hq1⟩)
        | (go_at_call 37; refine (rules_any _).mono ?_; rintro e w2 ⟨B, rfl, hq2, ⟨r0, r1, r2, r3, r4, r5, r6, r7, r8⟩⟩))
      exact bodyPost_ret (v := .tuple #[.string ⟨#[100, 114, 111, 112]⟩, .int .i64 0]) (by simp [results, Tryd.results28, go_sem]) rfl ⟨rfl, by repeat (first | exact Q.refl _ | assumption | refine Q.alloc ?_ _ | refine Q.drew ?_ | refine Q.drewN ?_ _ | refine Q.trans ?_ (by assumption))⟩
    · rw [show mt 1 0 = ⟨#[108, 97, 115, 116]⟩ from rfl]
      go_enter Tryd.func28, Tryd.ntmps28
      go_wp2_with (first
        | (go_at_call 19; refine (kc _).mono ?_; rintro e w1 ⟨rfl, hq1⟩)
        | (go_at_call 37; refine (rules_any _).mono ?_; rintro e w2 ⟨B, rfl, hq2, ⟨r0, r1, r2, r3, r4, r5, r6, r7, r8⟩⟩))
      exact bodyPost_ret (v := .tuple #[.string ⟨#[108, 97, 115, 116]⟩, .int .i64 0]) (by simp [results, Tryd.results28, go_sem]) rfl ⟨rfl, by repeat (first | exact Q.refl _ | assumption | refine Q.alloc ?_ _ | refine Q.drew ?_ | refine Q.drewN ?_ _ | refine Q.trans ?_ (by assumption))⟩
    · rw [show mt 2 0 = ⟨#[97, 108, 108]⟩ from rfl]
      go_enter Tryd.func28, Tryd.ntmps28
      go_wp2_with (first
        | (go_at_call 19; refine (kc _).mono ?_; rintro e w1 ⟨rfl, hq1⟩)
        | (go_at_call 37; refine (rules_any _).mono ?_; rintro e w2 ⟨B, rfl, hq2, ⟨r0, r1, r2, r3, r4, r5, r6, r7, r8⟩⟩))
      exact bodyPost_ret (v := .tuple #[.string ⟨#[97, 108, 108]⟩, .int .i64 0]) (by simp [results, Tryd.results28, go_sem]) rfl ⟨rfl, by repeat (first | exact Q.refl _ | assumption | refine Q.alloc ?_ _ | refine Q.drew ?_ | refine Q.drewN ?_ _ | refine Q.trans ?_ (by assumption))⟩
    · have hm : mt 3 k = ⟨#[115, 111, 109, 101, 58]⟩ ++ strOfNums (dgs k (nz k)) := rfl
      have kd := fun w2 (hT2 : Tab w2) => itoa_any k ⟨h1, h2⟩ w2 hT2
      have hz : nz k ≤ 3 := by unfold nz; (repeat' split) <;> omega
      have z2 : (strOfNums (dgs k (nz k))).size ≤ 3 := by rw [dgs_size]; exact hz
      rw [hm]
      clear hm hz
      generalize strOfNums (dgs k (nz k)) = U at *
      have z1 : (⟨#[115, 111, 109, 101, 58]⟩ : ByteArray).size = 5 := rfl
      obtain ⟨V, hV⟩ : ∃ x, (⟨#[115, 111, 109, 101, 58]⟩ : ByteArray) ++ U = x := ⟨_, rfl⟩
      rw [hV]
      go_enter Tryd.func28, Tryd.ntmps28
      go_wp2_with (first
        | (go_at_call 19; refine (kc _).mono ?_; rintro e w1 ⟨rfl, hq1⟩)
        | (go_at_call 37; refine (rules_any _).mono ?_; rintro e w2 ⟨B, rfl, hq2, ⟨r0, r1, r2, r3, r4, r5, r6, r7, r8⟩⟩)
        | (go_at_call 41; refine (kd _ (Tab.later hT (by repeat (first | exact Q.refl _ | assumption | refine Q.alloc ?_ _ | refine Q.drew ?_ | refine Q.drewN ?_ _ | refine Q.trans ?_ (by assumption))))).mono ?_; rintro e w3 ⟨rfl, hq3⟩))
      exact bodyPost_ret (v := .tuple #[.string V, .int .i64 0]) (by simp [results, Tryd.results28, go_sem]) rfl ⟨rfl, by repeat (first | exact Q.refl _ | assumption | refine Q.alloc ?_ _ | refine Q.drew ?_ | refine Q.drewN ?_ _ | refine Q.trans ?_ (by assumption))⟩
  · rw [if_neg (by omega)]
    rw [h] at kc ⊢
    clear h
    go_enter Tryd.func28, Tryd.ntmps28
    go_wp2_with (go_at_call 19; refine (kc _).mono ?_; rintro e w1 ⟨rfl, hq1⟩)
    exact bodyPost_ret (v := .tuple #[.string ⟨#[]⟩, .int .i64 2]) (by simp [results, Tryd.results28, go_sem]) rfl ⟨rfl, by repeat (first | exact Q.refl _ | assumption | refine Q.alloc ?_ _ | refine Q.drew ?_ | refine Q.drewN ?_ _ | refine Q.trans ?_ (by assumption))⟩
end Go.Proofs.YtadfdkhgjjehnaaDoor
