/- The contracts of zone's and the document's Text. -/
import Derived.Test.YtpenjmflkhhdgaaZonC
import Derived.Laws.BytesArg
namespace Zn
/-- the number of minutes, without its sign -/
def far (z : Int) : Int := if z < 0 then -z else z
def c0 (z : Int) : Int := if z < 0 then 45 else 43
def c1 (z : Int) : Int := 48 + far z / 60 / 10
def c2 (z : Int) : Int := 48 + far z / 60 % 10
def c4 (z : Int) : Int := 48 + far z % 60 / 10
def c5 (z : Int) : Int := 48 + far z % 60 % 10
end Zn
namespace Go.Proofs.Ytpenjmflkhhdgaa
open Go.RowKit
set_option linter.unusedVariables false
theorem jdx0 (a b : Int) (w : World) : (Instr.index 63 (.agg #[.int .i64 a, .int .i64 b]) (.int .i64 0)).run Try.prog w = .ok (.int .i64 a) w := by kernel_rfl
theorem jdx1 (a b : Int) (w : World) : (Instr.index 63 (.agg #[.int .i64 a, .int .i64 b]) (.int .i64 1)).run Try.prog w = .ok (.int .i64 b) w := by kernel_rfl
theorem write_any (z : Int) (hz : Zn.zOk z) (w : World) :
    Calls Try.prog 33 #[.int .i64 z] w fun e w' => e = .returned (.agg #[.int .u8 (Zn.c0 z), .int .u8 (Zn.c1 z), .int .u8 (Zn.c2 z), .int .u8 58, .int .u8 (Zn.c4 z), .int .u8 (Zn.c5 z)]) ∧ Q w w' := by
  unfold Zn.zOk at hz
  by_cases hn : z < 0
  · have e : Zn.far z = -z := if_pos hn
    obtain ⟨A, hA⟩ : ∃ A, -z = A := ⟨_, rfl⟩
    obtain ⟨H, hH⟩ : ∃ H, A / 60 = H := ⟨_, rfl⟩
    obtain ⟨M, hM⟩ : ∃ M, A % 60 = M := ⟨_, rfl⟩
    have i0 := jdx0 H M
    have i1 := jdx1 H M
    have b1 : 0 ≤ H ∧ H ≤ 14 := by omega
    have b2 : 0 ≤ M ∧ M ≤ 59 := by omega
    unfold Zn.c0 Zn.c1 Zn.c2 Zn.c4 Zn.c5
    rw [if_pos hn, e, hA, hH, hM]
    clear e
    go_enter Try.func33, Try.ntmps33
    go_wp2_with fail
    refine wp_loop_rounds 3 ?_; rw [rounds_succ]
    go_wp2_with fail
    rw [rounds_succ]
    go_wp2_with fail
    rw [rounds_succ]
    go_wp2_with fail
    exact bodyPost_ret (v := .agg #[.int .u8 45, .int .u8 (48 + H / 10), .int .u8 (48 + H % 10), .int .u8 58, .int .u8 (48 + M / 10), .int .u8 (48 + M % 10)]) (by simp [results, Try.results33, go_sem]) rfl ⟨rfl, ((Q.refl _).alloc _).alloc _⟩
  · have e : Zn.far z = z := if_neg hn
    obtain ⟨H, hH⟩ : ∃ H, z / 60 = H := ⟨_, rfl⟩
    obtain ⟨M, hM⟩ : ∃ M, z % 60 = M := ⟨_, rfl⟩
    have i0 := jdx0 H M
    have i1 := jdx1 H M
    have b1 : 0 ≤ H ∧ H ≤ 14 := by omega
    have b2 : 0 ≤ M ∧ M ≤ 59 := by omega
    unfold Zn.c0 Zn.c1 Zn.c2 Zn.c4 Zn.c5
    rw [if_neg hn, e, hH, hM]
    clear e
    go_enter Try.func33, Try.ntmps33
    go_wp2_with fail
    refine wp_loop_rounds 3 ?_; rw [rounds_succ]
    go_wp2_with fail
    rw [rounds_succ]
    go_wp2_with fail
    rw [rounds_succ]
    go_wp2_with fail
    exact bodyPost_ret (v := .agg #[.int .u8 43, .int .u8 (48 + H / 10), .int .u8 (48 + H % 10), .int .u8 58, .int .u8 (48 + M / 10), .int .u8 (48 + M % 10)]) (by simp [results, Try.results33, go_sem]) rfl ⟨rfl, ((Q.refl _).alloc _).alloc _⟩
theorem conv2 (w : World) (a b : Int) : (convert 56 9 (.slice (some ⟨w.heap.size, 0, none⟩) 2 2)).run Try.prog (w.alloc (.cells #[.int .u8 a, .int .u8 b] 5)) = .ok (.string (strOfNums [a, b])) (w.alloc (.cells #[.int .u8 a, .int .u8 b] 5)) :=
  run_convert_bytes_arg (P := Try.prog) _ 56 5 Try.underlying56 Try.underlying5 w.heap.size 0 2 2 [a, b] rfl (by
    intro i hi
    match i, hi with
    | 0, _ => simp
    | 1, _ => simp) 9 Try.underlying9
theorem conv6 (w : World) (a b c d e f : Int) : (convert 56 9 (.slice (some ⟨w.heap.size, 0, none⟩) 6 6)).run Try.prog (w.alloc (.cells #[.int .u8 a, .int .u8 b, .int .u8 c, .int .u8 d, .int .u8 e, .int .u8 f] 54)) = .ok (.string (strOfNums [a, b, c, d, e, f])) (w.alloc (.cells #[.int .u8 a, .int .u8 b, .int .u8 c, .int .u8 d, .int .u8 e, .int .u8 f] 54)) :=
  run_convert_bytes_arg (P := Try.prog) _ 56 5 Try.underlying56 Try.underlying5 w.heap.size 0 6 6 [a, b, c, d, e, f] rfl (by
    intro i hi
    match i, hi with
    | 0, _ => simp
    | 1, _ => simp
    | 2, _ => simp
    | 3, _ => simp
    | 4, _ => simp
    | 5, _ => simp) 9 Try.underlying9
/-- the text of a zone -/
def txt (z : Int) : ByteArray := strOfNums [Zn.c0 z, Zn.c1 z, Zn.c2 z, 58, Zn.c4 z, Zn.c5 z]
theorem two_any (n : Int) (h : 0 ≤ n ∧ n ≤ 99) (w : World) :
    Calls Try.prog 34 #[.int .i64 n] w fun e w' => e = .returned (.string (strOfNums [48 + n / 10, 48 + n % 10])) ∧ Q w w' := by
  have hcv := conv2 w (48 + n / 10) (48 + n % 10)
  go_enter Try.func34, Try.ntmps34
  go_wp2_with fail
  go_ret
  exact ⟨rfl, (Q.refl _).alloc _⟩
theorem text_ok (z : Int) (hz : Zn.zOk z) (w : World) :
    Calls Try.prog 14 #[.int .i64 z] w fun e w' => e = .returned (.tuple #[.string (txt z), .int .i64 0]) ∧ Q w w' := by
  have hcv := fun w2 => conv6 w2 (Zn.c0 z) (Zn.c1 z) (Zn.c2 z) 58 (Zn.c4 z) (Zn.c5 z)
  go_enter Try.func14, Try.ntmps14
  go_wp2_with (first
    | (go_at_call 18; refine (check_ok _ hz _).mono ?_; rintro e w1 ⟨rfl, rfl⟩)
    | (go_at_call 33; refine (write_any _ hz _).mono ?_; rintro e w2 ⟨rfl, hq2⟩))
  go_ret2
  exact ⟨rfl, hq2.alloc _⟩
theorem text_bad (z : Int) (hz : ¬ Zn.zOk z) (w : World) :
    Calls Try.prog 14 #[.int .i64 z] w fun e w' => e = .returned (.tuple #[.string ⟨#[]⟩, .int .i64 2]) ∧ Q w w' := by
  go_enter Try.func14, Try.ntmps14
  go_wp2_with (go_at_call 18; refine (check_bad _ hz _).mono ?_; rintro e w1 ⟨rfl, rfl⟩)
  go_ret2
  exact ⟨rfl, Q.refl _⟩
theorem rtext_bad (z : Int) (hz : ¬ Zn.zOk z) (w : World) :
    Calls Try.prog 15 #[.int .i64 z] w fun e w' => e = .returned (.tuple #[.string ⟨#[]⟩, .int .i64 2]) ∧ Q w w' := by
  go_enter Try.func15, Try.ntmps15
  go_wp2_with (go_at_call 19; refine (rcheck_bad _ hz _).mono ?_; rintro e w1 ⟨rfl, rfl⟩)
  go_ret2
  exact ⟨rfl, Q.refl _⟩
theorem join6 (a b c d : Int) (s : UInt8) : (((⟨#[s]⟩ : ByteArray) ++ strOfNums [a, b]) ++ (⟨#[58]⟩ : ByteArray)) ++ strOfNums [c, d] = ⟨#[s, UInt8.ofNat a.toNat, UInt8.ofNat b.toNat, 58, UInt8.ofNat c.toNat, UInt8.ofNat d.toNat]⟩ := by
  apply ByteArray.ext
  simp [strOfNums]
theorem rtext_ok (z : Int) (hz : Zn.zOk z) (w : World) :
    Calls Try.prog 15 #[.int .i64 z] w fun e w' => e = .returned (.tuple #[.string (txt z), .int .i64 0]) ∧ Q w w' := by
  have hz' := hz
  unfold Zn.zOk at hz'
  by_cases hn : z < 0
  · obtain ⟨A, hA⟩ : ∃ A, -z = A := ⟨_, rfl⟩
    have b0 : 0 ≤ A ∧ A ≤ 840 := by omega
    have e : Zn.far z = A := by unfold Zn.far; rw [if_pos hn, hA]
    have s1 : (strOfNums [48 + A / 60 / 10, 48 + A / 60 % 10]).size = 2 := rfl
    have s2 : (strOfNums [48 + A % 60 / 10, 48 + A % 10]).size = 2 := rfl
    have e2 : txt z = (((⟨#[45]⟩ : ByteArray) ++ strOfNums [48 + A / 60 / 10, 48 + A / 60 % 10]) ++ (⟨#[58]⟩ : ByteArray)) ++ strOfNums [48 + A % 60 / 10, 48 + A % 10] := by
      rw [join6, show A % 10 = A % 60 % 10 by omega]; unfold txt Zn.c0 Zn.c1 Zn.c2 Zn.c4 Zn.c5; rw [if_pos hn, e]; rfl
    rw [e2]; clear e e2
    go_enter Try.func15, Try.ntmps15
    go_wp2_with (first
      | (go_at_call 19; refine (rcheck_ok _ hz _).mono ?_; rintro e w1 ⟨rfl, rfl⟩)
      | (go_at_call 34; refine (two_any _ (by omega) _).mono ?_; rintro e w2 ⟨rfl, hq2⟩))
    go_ret2
    exact ⟨rfl, by repeat (first | exact Q.refl _ | assumption | refine Q.trans ?_ (by assumption))⟩
  · have b0 : 0 ≤ z ∧ z ≤ 840 := by omega
    have e : Zn.far z = z := if_neg hn
    have s1 : (strOfNums [48 + z / 60 / 10, 48 + z / 60 % 10]).size = 2 := rfl
    have s2 : (strOfNums [48 + z % 60 / 10, 48 + z % 10]).size = 2 := rfl
    have e2 : txt z = (((⟨#[43]⟩ : ByteArray) ++ strOfNums [48 + z / 60 / 10, 48 + z / 60 % 10]) ++ (⟨#[58]⟩ : ByteArray)) ++ strOfNums [48 + z % 60 / 10, 48 + z % 10] := by
      rw [join6, show z % 10 = z % 60 % 10 by omega]; unfold txt Zn.c0 Zn.c1 Zn.c2 Zn.c4 Zn.c5; rw [if_neg hn, e]; rfl
    rw [e2]; clear e e2
    go_enter Try.func15, Try.ntmps15
    go_wp2_with (first
      | (go_at_call 19; refine (rcheck_ok _ hz _).mono ?_; rintro e w1 ⟨rfl, rfl⟩)
      | (go_at_call 34; refine (two_any _ (by omega) _).mono ?_; rintro e w2 ⟨rfl, hq2⟩))
    go_ret2
    exact ⟨rfl, by repeat (first | exact Q.refl _ | assumption | refine Q.trans ?_ (by assumption))⟩
end Go.Proofs.Ytpenjmflkhhdgaa
