/- A gate stays within its bounds. -/
import Derived.Test.YtnmgcjkffeeapabGreatDoorGatC
namespace Go.Proofs.YtnmgcjkffeeapabGreatDoor
open Go.RowKit
set_option linter.unusedVariables false
set_option linter.unusedSimpArgs false
theorem Li.ok_mono {x : Li} {n : Int} (h : x.ok n) (hn : n < 100) : x.ok (n + 1) := by
  obtain ⟨a1, a2, a3, a4, a5, a6, a7, a8, a9⟩ := h
  exact ⟨a1, a2, a3, a4, a5, by omega, a7, by omega, by omega⟩
theorem Li.ok_count {x : Li} {n now : Int} (h : x.ok n) (hn : n < 100) (hw : 0 ≤ now ∧ now ≤ 1000) : (x.count now).ok (n + 1) := by
  obtain ⟨a1, a2, a3, a4, a5, a6, a7, a8, a9⟩ := h
  refine ⟨a1, a2, a3, a4, ?_, ?_, hw.1, by omega, by omega⟩
  · show 0 ≤ max now x.tat + x.T
    omega
  · show max now x.tat + x.T ≤ 1000 + (n + 1) * 68719476736
    omega
theorem Bx.ok_mono {x : Bx} {n : Int} (h : x.ok n) (hn : n < 100) : x.ok (n + 1) := by
  obtain ⟨a1, a2, a3, a4, a5, a6, a7, a8, a9, a10⟩ := h
  exact ⟨a1, a2, a3, a4, ⟨a5.1, by omega⟩, ⟨a6.1, by omega⟩, ⟨a7.1, by omega⟩, a8, by omega, by omega⟩
theorem Bx.ok_take {x : Bx} {n now : Int} (h : x.ok n) (hn : n < 100) (hw : 0 ≤ now ∧ now ≤ 1000) : (x.take now).ok (n + 1) := by
  obtain ⟨a1, a2, a3, a4, a5, a6, a7, a8, a9, a10⟩ := h
  refine ⟨a1, a2, a3, a4, ⟨a5.1, by show x.fails ≤ _; omega⟩, ⟨a6.1, by show x.good ≤ _; omega⟩, ?_, hw.1, by omega, by omega⟩
  show 0 ≤ (if x.stt now = 2 then x.under + 1 else x.under) ∧ (if x.stt now = 2 then x.under + 1 else x.under) ≤ n + 1
  split <;> omega
theorem Bx.ok_start {x : Bx} {n now : Int} (h : x.ok n) (hw : 0 ≤ now ∧ now ≤ 1000) : (x.start now).ok n := by
  obtain ⟨a1, a2, a3, a4, a5, a6, a7, a8, a9, a10⟩ := h
  refine ⟨a1, a2, a3, ?_, ?_, ?_, ?_, a8, a9, a10⟩
  · show 0 ≤ now + x.O ∧ now + x.O ≤ 68719477736; omega
  · show (0 : Int) ≤ 0 ∧ (0 : Int) ≤ n; omega
  · show (0 : Int) ≤ 0 ∧ (0 : Int) ≤ n; omega
  · show (0 : Int) ≤ 0 ∧ (0 : Int) ≤ n; omega
theorem Bx.ok_stop {x : Bx} {n : Int} (h : x.ok n) : x.stop.ok n := by
  obtain ⟨a1, a2, a3, a4, a5, a6, a7, a8, a9, a10⟩ := h
  refine ⟨a1, a2, a3, ?_, ?_, ?_, ?_, a8, a9, a10⟩
  · show (0 : Int) ≤ 0 ∧ (0 : Int) ≤ 68719477736; omega
  · show (0 : Int) ≤ 0 ∧ (0 : Int) ≤ n; omega
  · show (0 : Int) ≤ 0 ∧ (0 : Int) ≤ n; omega
  · show (0 : Int) ≤ 0 ∧ (0 : Int) ≤ n; omega
theorem Bx.ok_seen {x : Bx} {n now : Int} (h : x.ok n) (hw : 0 ≤ now ∧ now ≤ 1000) : (x.seen now).ok n := by
  obtain ⟨a1, a2, a3, a4, a5, a6, a7, a8, a9, a10⟩ := h
  exact ⟨a1, a2, a3, a4, a5, a6, a7, hw.1, a9, a10⟩
theorem Bx.ok_rep {x : Bx} {n now : Int} (k : Bool) (h0 : x.ok n) (hn : n < 100) (hw : 0 ≤ now ∧ now ≤ 1000) : (x.rep k now).2.ok (n + 1) := by
  have h := Bx.ok_seen h0 hw
  have hm := Bx.ok_mono h hn
  obtain ⟨a1, a2, a3, a4, a5, a6, a7, a8, a9, a10⟩ := h
  unfold Bx.rep
  split
  · exact hm
  · split
    · split
      · exact hm
      · unfold Bx.hal
        split
        · split
          · exact hm
          · split
            · rename_i hu hg
              exact ⟨a1, a2, a3, a4, ⟨a5.1, by show (x.seen now).fails ≤ _; omega⟩, ⟨by show 0 ≤ (x.seen now).good + 1; omega, by show (x.seen now).good + 1 ≤ _; omega⟩, ⟨by show 0 ≤ (x.seen now).under - 1; omega, by show (x.seen now).under - 1 ≤ _; omega⟩, a8, by omega, by omega⟩
            · exact Bx.ok_stop hm
        · exact Bx.ok_start hm hw
    · unfold Bx.clo
      split
      · exact ⟨a1, a2, a3, a4, ⟨by show (0 : Int) ≤ 0; omega, by show (0 : Int) ≤ _; omega⟩, ⟨a6.1, by show (x.seen now).good ≤ _; omega⟩, ⟨a7.1, by show (x.seen now).under ≤ _; omega⟩, a8, by omega, by omega⟩
      · split
        · exact ⟨a1, a2, a3, a4, ⟨by show 0 ≤ (x.seen now).fails + 1; omega, by show (x.seen now).fails + 1 ≤ _; omega⟩, ⟨a6.1, by show (x.seen now).good ≤ _; omega⟩, ⟨a7.1, by show (x.seen now).under ≤ _; omega⟩, a8, by omega, by omega⟩
        · exact Bx.ok_start hm hw
theorem Bx.rep_last (x : Bx) (k : Bool) (now : Int) : (x.rep k now).2.last = now := by
  unfold Bx.rep
  split
  · rfl
  · split
    · split
      · rfl
      · unfold Bx.hal
        split
        · split
          · rfl
          · split <;> rfl
        · rfl
    · unfold Bx.clo
      split
      · rfl
      · split <;> rfl
theorem GaOk.later {x : Ga} {n now now' : Int} (h : GaOk x n now) (hl : now ≤ now') (hn : now' ≤ 1000) : GaOk x n now' :=
  ⟨h.ca, h.la, h.lj, h.bx, ⟨by have := h.hn; omega, hn⟩, by have := h.l0; omega, by have := h.l1; omega, by have := h.l2; omega, by have := h.l3; omega⟩
theorem GaOk.next {x : Ga} {n now : Int} (h : GaOk x n now) (hn : n < 100) : GaOk x (n + 1) now :=
  ⟨h.ca, Li.ok_mono h.la hn, Li.ok_mono h.lj hn, Bx.ok_mono h.bx hn, h.hn, h.l0, h.l1, h.l2, h.l3⟩
theorem GaOk.take {x : Ga} {n now : Int} (h : GaOk x n now) (hn : n < 100) (hf : x.ca.runs < x.ca.all) : GaOk (x.take now) (n + 1) now := by
  refine ⟨?_, Li.ok_count h.la hn h.hn, Li.ok_count h.lj hn h.hn, Bx.ok_take h.bx hn h.hn, h.hn, Int.le_refl _, Int.le_refl _, Int.le_refl _, Int.le_refl _⟩
  obtain ⟨c1, c2, c3⟩ := h.ca
  exact ⟨c1, c2, by show 0 ≤ x.ca.runs + 1 ∧ x.ca.runs + 1 ≤ 1000; omega⟩
theorem GaOk.give {x : Ga} {n now : Int} (k : Bool) (h : GaOk x n now) (hn : n < 100) (hf : 0 < x.ca.runs) : GaOk (x.give k now) (n + 1) now := by
  refine ⟨?_, Li.ok_mono h.la hn, Li.ok_mono h.lj hn, Bx.ok_rep k h.bx hn h.hn, h.hn, Int.le_refl _, h.l1, h.l2, ?_⟩
  · obtain ⟨c1, c2, c3⟩ := h.ca
    exact ⟨c1, c2, by show 0 ≤ x.ca.runs + -1 ∧ x.ca.runs + -1 ≤ 1000; omega⟩
  · show (x.bx.rep k now).2.last ≤ now
    rw [Bx.rep_last]; exact Int.le_refl _
end Go.Proofs.YtnmgcjkffeeapabGreatDoor
