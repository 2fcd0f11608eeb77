/- The contracts of layer 1's functions (sat) and of the document's (wakemanref01): each returns just what the plain functions of the text Plain say. -/
import Derived.Test.YtjakhgcmfpldgaaChecked
import Derived.Test.YtjakhgcmfpldgaaPlain
import Derived.Test.YtjakhgcmfpldgaaBits
import Derived.Test.YtjakhgcmfpldgaaShelf
import Derived.WalkKit
import Derived.WalkLawsBesides
import Derived.OpenShut
import Derived.Lib.Hide
namespace Go.Proofs.Ytjakhgcmfpldgaa
open Go.RowKit
set_option linter.unusedVariables false
/-- what calls may do to the world: new blocks and draws alone -/
def Q (w w' : World) : Prop := Below w.heap.size w w'
theorem Q.refl (w : World) : Q w w := Below.refl _ _
theorem Q.trans {a b c : World} (h : Q a b) (k : Q b c) : Q a c := Below.trans h (Below.mono k h.size)
theorem Q.drew {a b : World} (h : Q a b) : Q a b.drew := Below.drew h
theorem Q.drewN {a b : World} (h : Q a b) (n : Nat) : Q a (b.drewN n) := by
  unfold Q at *; exact ⟨h.os, h.tape, h.output, h.size, h.block⟩
theorem Q.alloc {a b : World} (h : Q a b) (o : Obj) : Q a (b.alloc o) := Below.alloc h h.size o
theorem Q.setCell {a b : World} (h : Q a b) {p : Addr} (hp : a.heap.size ≤ p.block) (u : Value) : Q a (b.setCell p u) := Below.setCell h hp u
theorem ret_int {k : IntKind} {a b : Int} (h : a = b) : Ending.returned (.int k a) = .returned (.int k b) := by rw [h]
/-- a call that hands back just one value and leaves the world alone -/
def Gives (v : Value) (w : World) (e : Ending) (w' : World) : Prop := e = .returned v ∧ w = w'
theorem clip_any (a : Int) (w : World) : Calls Try.prog 16 #[.int .i64 a] w fun e w' => e = .returned (.int .i64 (Sat.clip a)) ∧ w = w' := by
  have hc := Sat.clip_three a
  rcases hc with ⟨h, e⟩ | ⟨h, e⟩ | ⟨h, h', e⟩
  all_goals
    rw [e]; clear e
    go_enter Try.func16, Try.ntmps16
    go_wp2
    all_goals
      go_ret
      exact ⟨ret_int (by omega), rfl⟩
theorem rclip_any (a : Int) (w : World) : Calls Try.prog 17 #[.int .i64 a] w fun e w' => e = .returned (.int .i64 (Sat.clip a)) ∧ w = w' := by
  have hc := Sat.clip_three a
  rcases hc with ⟨h, e⟩ | ⟨h, e⟩ | ⟨h, h', e⟩ <;> rw [e] <;> clear e <;>
  · go_enter Try.func17, Try.ntmps17
    go_wp2
    go_ret
    exact ⟨ret_int rfl, rfl⟩
theorem add_any (a b : Int) (w : World) : Calls Try.prog 18 #[.int .i64 a, .int .i64 b] w fun e w' => e = .returned (.int .i64 (Sat.add a b)) ∧ w = w' := by
  have ha := Sat.clip_num a
  have hb := Sat.clip_num b
  unfold Sat.add
  rcases Sat.clip_three (Sat.clip a + Sat.clip b) with ⟨h, e⟩ | ⟨h, e⟩ | ⟨h, h', e⟩ <;> rw [e] <;> clear e <;>
  by_cases hp : 0 < Sat.clip b <;> by_cases hn : Sat.clip b < 0 <;> first | (exfalso; omega) |
  · go_enter Try.func18, Try.ntmps18
    go_wp2_with (go_at_call 16; refine (clip_any _ _).mono ?_; rintro e w' ⟨rfl, rfl⟩)
    go_ret
    exact ⟨ret_int (by first | rfl | omega), rfl⟩
theorem radd_any (a b : Int) (w : World) : Calls Try.prog 19 #[.int .i64 a, .int .i64 b] w fun e w' => e = .returned (.int .i64 (Sat.add a b)) ∧ w = w' := by
  have ha := Sat.clip_num a
  have hb := Sat.clip_num b
  unfold Sat.add
  rcases Sat.clip_three (Sat.clip a + Sat.clip b) with ⟨h, e⟩ | ⟨h, e⟩ | ⟨h, h', e⟩ <;> rw [e] <;> clear e <;>
  by_cases hp : 0 < Sat.clip b <;> by_cases hn : Sat.clip b < 0 <;> first | (exfalso; omega) |
  · go_enter Try.func19, Try.ntmps19
    go_wp2_with (go_at_call 17; refine (rclip_any _ _).mono ?_; rintro e w' ⟨rfl, rfl⟩)
    go_ret
    exact ⟨ret_int (by first | rfl | omega), rfl⟩
theorem sub_any (a b : Int) (w : World) : Calls Try.prog 20 #[.int .i64 a, .int .i64 b] w fun e w' => e = .returned (.int .i64 (Sat.sub a b)) ∧ w = w' := by
  have hb := Sat.clip_num b
  rw [← Sat.sub_add]
  go_enter Try.func20, Try.ntmps20
  go_wp2_with (first | (go_at_call 16; refine (clip_any _ _).mono ?_; rintro e w' ⟨rfl, rfl⟩) | (go_at_call 18; refine (add_any _ _ _).mono ?_; rintro e w' ⟨rfl, rfl⟩))
  go_ret
  exact ⟨rfl, rfl⟩
theorem rsub_any (a b : Int) (w : World) : Calls Try.prog 21 #[.int .i64 a, .int .i64 b] w fun e w' => e = .returned (.int .i64 (Sat.sub a b)) ∧ w = w' := by
  have hb := Sat.clip_num b
  rw [← Sat.sub_add]
  go_enter Try.func21, Try.ntmps21
  go_wp2_with (first | (go_at_call 17; refine (rclip_any _ _).mono ?_; rintro e w' ⟨rfl, rfl⟩) | (go_at_call 19; refine (radd_any _ _ _).mono ?_; rintro e w' ⟨rfl, rfl⟩))
  go_ret
  exact ⟨rfl, rfl⟩
end Go.Proofs.Ytjakhgcmfpldgaa
