/- The contracts of civil's functions on numbers: dates of days, days of dates, civil times. -/
import Derived.Test.YtdhlgmclogdplaaDoorProg
import Derived.Test.YtdhlgmclogdplaaDoorCal
import Derived.WalkKit
import Derived.WalkLawsBesides
import Derived.OpenShut
import Derived.Lib.Hide
import Derived.RegionTactic
import Derived.Laws.StructEq
import Derived.Deep.QuietTactic
import Derived.BigQuiet
namespace Go.Proofs.YtdhlgmclogdplaaDoor
open Go.RowKit
set_option linter.unusedVariables false
/-- what calls may do to the world: new blocks and draws alone -/
def Q (w w' : World) : Prop := Below w.heap.size w w'
theorem Q.refl (w : World) : Q w w := Below.refl _ _
theorem Q.trans {a b c : World} (h : Q a b) (k : Q b c) : Q a c := Below.trans h (Below.mono k h.size)
theorem Q.drew {a b : World} (h : Q a b) : Q a b.drew := Below.drew h
theorem Q.drewN {a b : World} (h : Q a b) (n : Nat) : Q a (b.drewN n) := by
  unfold Q at *; exact ⟨h.os, h.tape, h.output, h.size, h.block⟩
theorem Q.alloc {a b : World} (h : Q a b) (o : Obj) : Q a (b.alloc o) := Below.alloc h h.size o
theorem Q.setCell {a b : World} (h : Q a b) {p : Addr} (hp : a.heap.size ≤ p.block) (u : Value) : Q a (b.setCell p u) := Below.setCell h hp u
theorem Q.cell {a b : World} (h : Q a b) {p : Addr} (hp : p.block < a.heap.size) : b.cell? p = a.cell? p := Below.cell h hp
theorem Q.size {a b : World} (h : Q a b) : a.heap.size ≤ b.heap.size := Below.size h
theorem Q.frozen {a b : World} (h : Q a b) {p : Addr} (hp : p.block < a.heap.size) : b.frozen? p = a.frozen? p := Below.frozen h hp
theorem ret_int {k : IntKind} {a b : Int} (h : a = b) : Ending.returned (.int k a) = .returned (.int k b) := by rw [h]
theorem ret_two {k l : IntKind} {a b c d : Int} (h : a = c) (g : b = d) : Ending.returned (.tuple #[.int k a, .int l b]) = .returned (.tuple #[.int k c, .int l d]) := by rw [h, g]
theorem val_int {k : IntKind} {a b : Int} (h : a = b) : Value.int k a = .int k b := by rw [h]
theorem beq_t {a b : Int} (h : a = b) : (a == b) = true := beq_iff_eq.2 h
theorem beq_f {a b : Int} (h : a ≠ b) : (a == b) = false := beq_eq_false_iff_ne.2 h
theorem bne_t {a b : Int} (h : a ≠ b) : (a != b) = true := bne_iff_ne.2 h
theorem bne_f {a b : Int} (h : a = b) : (a != b) = false := by rw [h]; simp
theorem bd64 {a : Int} (h : (Lit.int .i64 a).wf = true) : -9223372036854775808 ≤ a ∧ a ≤ 9223372036854775807 := by
  have hmin : IntKind.i64.min = -9223372036854775808 := rfl
  have hmax : IntKind.i64.max = 9223372036854775807 := rfl
  simp only [Lit.wf, Bool.and_eq_true, decide_eq_true_eq] at h; omega
theorem date_bad (n : Int) (h : ¬ Cal.dayOk n) (w : World) :
    Calls Tryd.prog 15 #[.int .i64 n] w fun e w' => e = .returned (.tuple #[.int .i64 0, .int .i64 0, .int .i64 0, .int .i64 14]) ∧ w = w' := by
  unfold Cal.dayOk at h
  by_cases h1 : n < 0
  · go_enter Tryd.func15, Tryd.ntmps15
    go_wp2
    exact bodyPost_ret (v := .tuple #[.int .i64 0, .int .i64 0, .int .i64 0, .int .i64 14]) (by simp [results, Tryd.results15, go_sem]) rfl ⟨rfl, rfl⟩
  · have h2 : 2932896 < n := by omega
    go_enter Tryd.func15, Tryd.ntmps15
    go_wp2
    exact bodyPost_ret (v := .tuple #[.int .i64 0, .int .i64 0, .int .i64 0, .int .i64 14]) (by simp [results, Tryd.results15, go_sem]) rfl ⟨rfl, rfl⟩
theorem date_good (n : Int) (h : Cal.dayOk n) (w : World) :
    Calls Tryd.prog 15 #[.int .i64 n] w fun e w' => e = .returned (.tuple #[.int .i64 (Cal.yr n), .int .i64 (Cal.mo n), .int .i64 (Cal.dy n), .int .i64 0]) ∧ w = w' := by
  unfold Cal.dayOk at h
  obtain ⟨C, hC⟩ : ∃ C, (n + 719468) / 146097 = C := ⟨_, rfl⟩
  obtain ⟨D, hD⟩ : ∃ D, (n + 719468) % 146097 = D := ⟨_, rfl⟩
  obtain ⟨Y, hY⟩ : ∃ Y, (D - D / 1460 + D / 36524 - D / 146096) / 365 = Y := ⟨_, rfl⟩
  obtain ⟨R, hR⟩ : ∃ R, D - (365 * Y + Y / 4 - Y / 100) = R := ⟨_, rfl⟩
  obtain ⟨M, hM⟩ : ∃ M, (5 * R + 2) / 153 = M := ⟨_, rfl⟩
  have eC : Cal.cyc n = C := hC
  have eY : Cal.yrs n = Y := by unfold Cal.yrs; rw [hD]; exact hY
  have eR : Cal.rst n = R := by unfold Cal.rst; rw [eY, hD]; exact hR
  have eM : Cal.mon n = M := by unfold Cal.mon; rw [eR]; exact hM
  have b := Cal.yrs_bd n
  rw [eY, eR] at b
  have b1 : 0 ≤ D ∧ D ≤ 146096 := by omega
  have b2 : 0 ≤ C ∧ C ≤ 30 := by omega
  have b3 : 0 ≤ Y ∧ Y ≤ 399 := by omega
  have b4 : 0 ≤ R ∧ R ≤ 146096 := by omega
  have b5 : 0 ≤ M ∧ M ≤ 5000 := by omega
  clear b
  have EC := Lib.hid eC; have EY := Lib.hid eY; have ER := Lib.hid eR; have EM := Lib.hid eM
  clear eC eY eR eM
  by_cases hm : 9 < M
  · go_enter Tryd.func15, Tryd.ntmps15
    go_wp2
    refine bodyPost_ret (v := .tuple #[.int .i64 (400 * C + Y + 1), .int .i64 (M + 3 - 12), .int .i64 (R - (153 * M + 2) / 5 + 1), .int .i64 0]) (by simp [results, Tryd.results15, go_sem]) rfl ⟨?_, rfl⟩
    unfold Cal.yr Cal.mo Cal.dy
    rw [EM.out, EC.out, EY.out, ER.out, if_pos hm, if_pos hm, show M + 3 - 12 = M - 9 by omega]
  · go_enter Tryd.func15, Tryd.ntmps15
    go_wp2
    refine bodyPost_ret (v := .tuple #[.int .i64 (400 * C + Y), .int .i64 (M + 3), .int .i64 (R - (153 * M + 2) / 5 + 1), .int .i64 0]) (by simp [results, Tryd.results15, go_sem]) rfl ⟨?_, rfl⟩
    unfold Cal.yr Cal.mo Cal.dy
    rw [EM.out, EC.out, EY.out, ER.out, if_neg (by omega), if_neg (by omega)]
theorem count_any (y m d : Int) (hy : 1970 ≤ y ∧ y ≤ 9999) (hm : 1 ≤ m ∧ m ≤ 12) (hd : 1 ≤ d ∧ d ≤ 31) (w : World) :
    Calls Tryd.prog 42 #[.int .i64 y, .int .i64 m, .int .i64 d] w fun e w' => e = .returned (.int .i64 (Cal.num y m d)) ∧ w = w' := by
  by_cases h : m ≤ 2
  · have e := Cal.count_early (y := y) (d := d) hm.1 h
    have e2 := Cal.mar_split (y - 1)
    have E := Lib.hid e; have E2 := Lib.hid e2
    clear e e2
    go_enter Tryd.func42, Tryd.ntmps42
    go_wp2
    go_ret
    exact ⟨ret_int (by rw [← E.out, ← E2.out]), rfl⟩
  · have e := Cal.count_late (y := y) (d := d) (show 3 ≤ m by omega)
    have e2 := Cal.mar_split y
    have E := Lib.hid e; have E2 := Lib.hid e2
    clear e e2
    go_enter Tryd.func42, Tryd.ntmps42
    go_wp2
    go_ret
    exact ⟨ret_int (by rw [← E.out, ← E2.out]), rfl⟩
theorem eq_i64 (d : Nat) (a b : Int) (w : World) : (Op.equalIn (d + 1) 3 (.int .i64 a) (.int .i64 b)).run Tryd.prog w = .ok (a == b) w := run_equalIn_int w d 3 .i64 .i64 a b Tryd.underlying3
theorem neq3 (a b c a' b' c' : Int) (w : World) : (binOp .neq 58 (.agg #[.int .i64 a, .int .i64 b, .int .i64 c]) (.agg #[.int .i64 a', .int .i64 b', .int .i64 c'])).run Tryd.prog w = .ok (.bool (!(a == a' && (b == b' && c == c')))) w := by
  rw [run_neq_struct]
  rw [Op.equalIn]
  have r3 : List.range' 0 3 = [0, 1, 2] := rfl
  have p (x y z : Int) : (part 3 #[Value.int IntKind.i64 x, Value.int IntKind.i64 y, Value.int IntKind.i64 z] 0).run Tryd.prog w = .ok (.int .i64 x) w := by rfl
  have q (x y z : Int) : (part 3 #[Value.int IntKind.i64 x, Value.int IntKind.i64 y, Value.int IntKind.i64 z] 1).run Tryd.prog w = .ok (.int .i64 y) w := by rfl
  have r (x y z : Int) : (part 3 #[Value.int IntKind.i64 x, Value.int IntKind.i64 y, Value.int IntKind.i64 z] 2).run Tryd.prog w = .ok (.int .i64 z) w := by rfl
  have e := eq_i64 9998
  by_cases h1 : a = a' <;> by_cases h2 : b = b' <;> by_cases h3 : c = c' <;> simp [run_underlying Tryd.underlying58, r3, p, q, r, e, h1, h2, h3, Result.andThen]
theorem days_good (y m d : Int) (h : Cal.Valid y m d) (w : World) :
    Calls Tryd.prog 27 #[.int .i64 y, .int .i64 m, .int .i64 d] w fun e w' => e = .returned (.tuple #[.int .i64 (Cal.num y m d), .int .i64 0]) ∧ w = w' := by
  have hr := Cal.num_range h
  have hd := Cal.date_of h
  have hb := Cal.dim_bd y m
  obtain ⟨v1, v2, v3, v4, v5, v6⟩ := h
  have hok : Cal.dayOk (Cal.num y m d) := hr
  obtain ⟨d1, d2, d3⟩ := hd
  have hn := neq3 y m d y m d
  simp only [beq_self_eq_true, Bool.and_self, Bool.not_true] at hn
  go_enter Tryd.func27, Tryd.ntmps27
  go_wp2_with (first
    | (go_at_call 42; refine (count_any _ _ _ (by omega) (by omega) (by omega) _).mono ?_; rintro e w1 ⟨rfl, rfl⟩)
    | (go_at_call 15; refine (date_good _ hok _).mono ?_; rintro e w1 ⟨rfl, rfl⟩))
  go_ret2
  exact ⟨rfl, rfl⟩
theorem days_bad (y m d : Int) (h : ¬ Cal.Valid y m d) (w : World) :
    Calls Tryd.prog 27 #[.int .i64 y, .int .i64 m, .int .i64 d] w fun e w' => e = .returned (.tuple #[.int .i64 0, .int .i64 2]) ∧ w = w' := by
  by_cases h1 : y < 1970
  · go_enter Tryd.func27, Tryd.ntmps27
    go_wp2
    go_ret2
    exact ⟨rfl, rfl⟩
  by_cases h2 : 9999 < y
  · go_enter Tryd.func27, Tryd.ntmps27
    go_wp2
    go_ret2
    exact ⟨rfl, rfl⟩
  by_cases h3 : m < 1
  · go_enter Tryd.func27, Tryd.ntmps27
    go_wp2
    go_ret2
    exact ⟨rfl, rfl⟩
  by_cases h4 : 12 < m
  · go_enter Tryd.func27, Tryd.ntmps27
    go_wp2
    go_ret2
    exact ⟨rfl, rfl⟩
  by_cases h5 : d < 1
  · go_enter Tryd.func27, Tryd.ntmps27
    go_wp2
    go_ret2
    exact ⟨rfl, rfl⟩
  by_cases h6 : 31 < d
  · go_enter Tryd.func27, Tryd.ntmps27
    go_wp2
    go_ret2
    exact ⟨rfl, rfl⟩
  by_cases hok : Cal.dayOk (Cal.num y m d)
  · have hne := Cal.not_valid_date hok h
    have hn := neq3 (Cal.yr (Cal.num y m d)) (Cal.mo (Cal.num y m d)) (Cal.dy (Cal.num y m d)) y m d
    have hf : (Cal.yr (Cal.num y m d) == y && (Cal.mo (Cal.num y m d) == m && Cal.dy (Cal.num y m d) == d)) = false := by
      rw [Bool.eq_false_iff]; intro hc
      simp only [Bool.and_eq_true, beq_iff_eq] at hc
      exact hne hc
    simp only [hf, Bool.not_false] at hn
    clear hne hf h
    go_enter Tryd.func27, Tryd.ntmps27
    go_wp2_with (first
      | (go_at_call 42; refine (count_any _ _ _ (by omega) (by omega) (by omega) _).mono ?_; rintro e w1 ⟨rfl, rfl⟩)
      | (go_at_call 15; refine (date_good _ hok _).mono ?_; rintro e w1 ⟨rfl, rfl⟩))
    go_ret2
    exact ⟨rfl, rfl⟩
  · clear h
    go_enter Tryd.func27, Tryd.ntmps27
    go_wp2_with (first
      | (go_at_call 42; refine (count_any _ _ _ (by omega) (by omega) (by omega) _).mono ?_; rintro e w1 ⟨rfl, rfl⟩)
      | (go_at_call 15; refine (date_bad _ hok _).mono ?_; rintro e w1 ⟨rfl, rfl⟩))
    go_ret2
    exact ⟨rfl, rfl⟩
end Go.Proofs.YtdhlgmclogdplaaDoor
