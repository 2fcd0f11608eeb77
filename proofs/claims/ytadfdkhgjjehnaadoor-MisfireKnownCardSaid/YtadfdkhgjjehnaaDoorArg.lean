/- The arguments of the laws, as the rows' proofs hand them over. -/
import Derived.Test.YtadfdkhgjjehnaaDoorMisK
import Derived.Deep.Matrix
import Derived.OpenShut
namespace Go.Proofs.YtadfdkhgjjehnaaDoor
open Go.RowKit
set_option linter.unusedVariables false
/-- a slice of integers among the arguments -/
def IsRow (k : IntKind) (w : World) (a : Option Addr) (len cap : Nat) (zs : List Int) : Prop :=
  (a = none ∧ len = 0 ∧ cap = 0 ∧ zs = []) ∨
  ∃ x, a = some x ∧ len ≤ cap ∧ cap ≤ maxLen ∧ zs.length = cap ∧ (∀ i, i < zs.length → w.cell? (x.add i) = some (.int k (zs.getD i 0))) ∧ ∀ n ∈ zs, (Lit.int k n).wf = true
theorem sl_of_cells {w : World} {x : Addr} {zs : List Int} {len : Nat} (hl : len ≤ zs.length) (h : ∀ i, i < zs.length → w.cell? (x.add i) = some (.int .i64 (zs.getD i 0))) : Sl (some x) (zs.take len) w := by
  have hlen : (zs.take len).length = len := by rw [List.length_take]; omega
  by_cases h0 : len = 0
  · exact Or.inl (by rw [hlen]; exact h0)
  · obtain ⟨b, off, rfl, hc⟩ := Go.ints_at h (by omega)
    refine Or.inr ⟨b, off, rfl, World.block_lt_of_cell? w _ (hc 0 (by omega)), fun j hj => ?_⟩
    rw [hlen] at hj
    rw [hc j (by omega)]
    congr 2
    simp only [List.getD_eq_getElem?_getD, List.getElem?_take]
    rw [if_pos hj]
theorem IsRow.sl {w : World} {a : Option Addr} {len cap : Nat} {zs : List Int} (h : IsRow .i64 w a len cap zs) : Sl a (zs.take len) w ∧ (zs.take len).length = len ∧ len ≤ cap ∧ len ≤ maxLen := by
  rcases h with ⟨rfl, rfl, rfl, rfl⟩ | ⟨x, rfl, h1, h2, h3, h4, h5⟩
  · exact ⟨Or.inl rfl, rfl, by omega, by unfold maxLen; omega⟩
  · exact ⟨sl_of_cells (by omega) h4, by rw [List.length_take]; omega, h1, by omega⟩
/-- a slice of slices of integers among the arguments -/
def IsMat (w : World) (a : Option Addr) (len cap : Nat) (L : List (List Int)) : Prop :=
  L.length = len ∧ len ≤ cap ∧ len ≤ maxLen ∧ (∀ j, j < len → Mf.ln L j ≤ maxLen) ∧ Lm a L w
theorem isMat_nil (w : World) : IsMat w none 0 0 [] := ⟨rfl, by omega, by unfold maxLen; omega, fun j hj => by omega, Or.inl rfl⟩
theorem isMat_mk {w : World} (x : Addr) (l c : Nat) (A : Nat → Option Addr) (Ln C : Nat → Nat) (Z : Nat → List Int) (hl : l ≤ c) (hm : c ≤ maxLen)
    (h : ∀ r, r < c → w.cell? (x.add r) = some (.slice (A r) (Ln r) (C r)) ∧ Ln r ≤ C r ∧ C r ≤ maxLen ∧ (Z r).length = C r ∧ (∀ n ∈ Z r, (Lit.int .i64 n).wf = true) ∧ (A r = none → C r = 0) ∧ ∀ a', A r = some a' → 0 ≤ a'.block ∧ ∀ k, k < C r → w.cell? (a'.add k) = some (.int .i64 ((Z r).getD k 0))) :
    IsMat w (some x) l c ((List.range l).map fun r => (Z r).take (Ln r)) := by
  have hrow : ∀ j, j < l → Mf.row ((List.range l).map fun r => (Z r).take (Ln r)) j = (Z j).take (Ln j) := by
    intro j hj
    simp [Mf.row, List.getD, hj]
  have hln : ∀ j, j < l → Mf.ln ((List.range l).map fun r => (Z r).take (Ln r)) j = Ln j := by
    intro j hj
    have := h j (by omega)
    unfold Mf.ln
    rw [hrow j hj, List.length_take]; omega
  have hlen : ((List.range l).map fun r => (Z r).take (Ln r)).length = l := by simp
  refine ⟨hlen, hl, by omega, fun j hj => ?_, ?_⟩
  · have := h j (by omega)
    rw [hln j hj]; omega
  · rcases Nat.eq_zero_or_pos l with rfl | h0
    · exact Or.inl rfl
    · obtain ⟨b, off, spot⟩ := x
      have hspot : spot = none := by simpa [Addr.add] using World.cell?_spot (h 0 (by omega)).1
      subst hspot
      have hc : ∀ r, r < l → w.cell? ⟨b, off + r, none⟩ = some (.slice (A r) (Ln r) (C r)) := fun r hr => by rw [← Go.WideShapes.add_plain]; exact (h r (by omega)).1
      refine Or.inr ⟨b, off, A, C, rfl, World.block_lt_of_cell? w _ (hc 0 h0), fun j hj => ?_⟩
      rw [hlen] at hj
      rw [hln j hj, hrow j hj]
      refine ⟨hc j hj, ?_⟩
      obtain ⟨_, h1, h2, h3, _, h5, h6⟩ := h j (by omega)
      cases hA : A j with
      | none => exact Or.inl (by rw [List.length_take, h3, h5 hA]; omega)
      | some a' => exact sl_of_cells (by omega) (fun i hi => (h6 a' hA).2 i (by omega))
end Go.Proofs.YtadfdkhgjjehnaaDoor
