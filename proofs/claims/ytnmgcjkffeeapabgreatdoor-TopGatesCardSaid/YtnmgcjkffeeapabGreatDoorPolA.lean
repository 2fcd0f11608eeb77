/- The contracts of policy's small checks. -/
import Derived.Test.YtnmgcjkffeeapabGreatDoorLim
import Derived.Test.YtnmgcjkffeeapabGreatDoorBoxN
import Derived.RangeFuncRecord
namespace Go.Proofs.YtnmgcjkffeeapabGreatDoor
open Go.RowKit
set_option linter.unusedVariables false
set_option linter.unusedSimpArgs false
/-- a number from lo to hi -/
def inB (n lo hi : Int) : Bool := decide (lo ≤ n) && decide (n ≤ hi)
theorem inB_t {n lo hi : Int} (h : lo ≤ n ∧ n ≤ hi) : inB n lo hi = true := by unfold inB; simp; exact h
theorem inB_iff {n lo hi : Int} : inB n lo hi = true ↔ lo ≤ n ∧ n ≤ hi := by unfold inB; simp
theorem in64_any (n lo hi : Int) (w : World) : Calls Tryz.prog 71 #[.int .i64 n, .int .i64 lo, .int .i64 hi] w fun e w' => e = .returned (.bool (inB n lo hi)) ∧ w = w' := by
  unfold inB
  by_cases a : lo ≤ n
  · have y1 : decide (lo ≤ n) = true := by simp; omega
    rw [y1, Bool.true_and]
    go_enter Tryz.func71, Tryz.ntmps71
    go_wp2
    go_ret
    exact ⟨rfl, rfl⟩
  · have y1 : decide (lo ≤ n) = false := by simp; omega
    rw [y1, Bool.false_and]
    go_enter Tryz.func71, Tryz.ntmps71
    go_wp2
    go_ret
    exact ⟨rfl, rfl⟩
theorem inint_any (n lo hi : Int) (w : World) : Calls Tryz.prog 73 #[.int .i64 n, .int .i64 lo, .int .i64 hi] w fun e w' => e = .returned (.bool (inB n lo hi)) ∧ w = w' := by
  unfold inB
  by_cases a : lo ≤ n
  · have y1 : decide (lo ≤ n) = true := by simp; omega
    rw [y1, Bool.true_and]
    go_enter Tryz.func73, Tryz.ntmps73
    go_wp2
    go_ret
    exact ⟨rfl, rfl⟩
  · have y1 : decide (lo ≤ n) = false := by simp; omega
    rw [y1, Bool.false_and]
    go_enter Tryz.func73, Tryz.ntmps73
    go_wp2
    go_ret
    exact ⟨rfl, rfl⟩
theorem still_of {P : Program} {f : Nat} {xs : Array Value} {w : World} {v : Value} (h : Calls P f xs w fun e w' => e = .returned v ∧ w = w') : Calls P f xs w fun e w' => e = .returned v ∧ w' = w := h.mono fun _ _ k => ⟨k.1, k.2.symm⟩
/-- booleans in memory -/
def BlAt (b : Nat) (l : List Bool) (w : World) : Prop := b < w.heap.size ∧ ∀ j, j < l.length → w.cell? ⟨b, j, none⟩ = some (.bool (l.getD j true))
theorem BlAt.q {b : Nat} {l : List Bool} {w w' : World} (h : BlAt b l w) (q : Q w w') : BlAt b l w' :=
  ⟨Nat.lt_of_lt_of_le h.1 q.size, fun j hj => (q.cell (p := ⟨b, j, none⟩) h.1).trans (h.2 j hj)⟩
theorem all_id {l : List Bool} : l.all id = true ↔ ∀ j, j < l.length → l.getD j true = true := by
  rw [List.all_eq_true]
  constructor
  · intro h j hj
    rw [List.getD_eq_getElem?_getD, List.getElem?_eq_getElem hj]
    exact h _ (List.getElem_mem hj)
  · intro h x hx
    obtain ⟨j, hj, rfl⟩ := List.getElem_of_mem hx
    have := h j hj
    rw [List.getD_eq_getElem?_getD, List.getElem?_eq_getElem hj] at this
    exact this
/-- where the first false one is, or -1 -/
def IdxPost (l : List Bool) (w : World) (e : Ending) (w' : World) : Prop := ∃ i : Int, e = .returned (.int .i64 i) ∧ decide (0 ≤ i) = !(l.all id) ∧ Q w w'
theorem idxb_any (b c : Nat) (l : List Bool) (n : Nat) (hn : l.length = n) (hb : n ≤ 1000) (w : World) (h : BlAt b l w) :
    Calls Tryz.prog 81 #[.slice (some ⟨b, 0, none⟩) n c, .bool false] w (IdxPost l w) := by
  have hgi : goInt n = .int .i64 n := by simp [goInt]
  have HB := Lib.hid h
  have HN := Lib.hid hn
  clear h hn
  go_enter Tryz.func81, Tryz.ntmps81
  go_wp2_with fail
  go_loopw [8] (fun vi wr => ∃ k : Nat, vi = .int .i64 k ∧ k ≤ n ∧ (∀ j, j < k → l.getD j true = true) ∧ Q w wr) (fun vi _ => n - (intOf vi).toNat)
  case atStart => exact ⟨0, rfl, by omega, fun j hj => by omega, Q.refl _⟩
  case round =>
    obtain ⟨k, rfl, hk, ha, hq⟩ := hrel
    have HA := Lib.hid ha; clear ha
    rcases Nat.lt_or_ge k n with hlt | hge
    · have y1 : decide ((k : Int) < (n : Int)) = true := by simp; omega
      have y2 : (0 : Int) ≤ (k : Int) ∧ (k : Int) < (n : Int) := by omega
      have hc := (HB.out.q hq).2 k (by rw [HN.out]; exact hlt)
      cases hv : l.getD k true with
      | false =>
        rw [hv] at hc
        have HV := Lib.hid hv
        clear hv
        go_wp2_with fail
        go_ret
        exact ⟨k, rfl, by
          have : l.all id = false := by
            cases e : l.all id with
            | false => rfl
            | true => have := all_id.1 e k (by rw [HN.out]; exact hlt); rw [HV.out] at this; cases this
          rw [this]; simp, hq⟩
      | true =>
        rw [hv] at hc
        have HV := Lib.hid hv
        clear hv
        go_wp2_with fail
        go_roundw
        case rel =>
          refine ⟨k + 1, by go_num, by omega, fun j hj => ?_, hq⟩
          rcases Nat.lt_or_ge j k with g | g
          · exact HA.out j g
          · obtain rfl : j = k := by omega
            exact HV.out
        case measure => simp [intOf]; omega
    · obtain rfl : n = k := by omega
      have y1 : decide ((n : Int) < (n : Int)) = false := by simp
      go_wp2_with fail
      go_ret
      exact ⟨-1, rfl, by rw [all_id.2 (fun j hj => HA.out j (by rw [HN.out] at hj; exact hj))]; rfl, hq⟩
theorem contb_any (b c : Nat) (l : List Bool) (n : Nat) (hn : l.length = n) (hb : n ≤ 1000) (w : World) (h : BlAt b l w) :
    Calls Tryz.prog 78 #[.slice (some ⟨b, 0, none⟩) n c, .bool false] w fun e w' => e = .returned (.bool (!(l.all id))) ∧ Q w w' := by
  have ki := idxb_any b c l n hn hb w h
  unfold IdxPost at ki
  obtain ⟨t, ht⟩ : ∃ t, l.all id = t := ⟨_, rfl⟩
  rw [ht] at ki ⊢
  clear ht h hn
  cases t
  all_goals
    go_enter Tryz.func78, Tryz.ntmps78
    go_wp2_with (go_at_call 81; refine ki.mono ?_; rintro e w2 ⟨i, rfl, hi, q2⟩; first | rw [Bool.not_false] at hi | rw [Bool.not_true] at hi)
    go_ret
    exact ⟨rfl, q2⟩
/-- the error of some rules -/
def rl (l : List Bool) : Int := if l.all id then 0 else 16
theorem rule_any (b c : Nat) (l : List Bool) (n : Nat) (hn : l.length = n) (hb : n ≤ 1000) (w : World) (h : BlAt b l w) :
    Calls Tryz.prog 70 #[.slice (some ⟨b, 0, none⟩) n c] w fun e w' => e = .returned (.int .i64 (rl l)) ∧ Q w w' := by
  have ki := contb_any b c l n hn hb w h
  unfold rl
  obtain ⟨t, ht⟩ : ∃ t, l.all id = t := ⟨_, rfl⟩
  rw [ht] at ki ⊢
  clear ht h hn
  cases t
  all_goals
    go_enter Tryz.func70, Tryz.ntmps70
    go_wp2_with (go_at_call 78; refine ki.mono ?_; rintro e w2 ⟨rfl, q2⟩)
    go_ret
    exact ⟨rfl, q2⟩
theorem bl_new (w : World) (b : Nat) (hb : b = w.heap.size) (l : List Bool) (cs : Array Value) (t : TypeId) (h : cs = (l.map Value.bool).toArray) : BlAt b l (w.alloc (.cells cs t)) := by
  subst hb h
  refine ⟨by simp, fun j hj => ?_⟩
  rw [World.cell?]
  simp only [World.alloc_heap_new]
  simp [List.getD, hj]
end Go.Proofs.YtnmgcjkffeeapabGreatDoor
