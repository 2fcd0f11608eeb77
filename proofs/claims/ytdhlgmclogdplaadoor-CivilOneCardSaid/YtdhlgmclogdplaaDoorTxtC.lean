/- The contract of civil.Parse: the loop's rounds. -/
import Derived.Test.YtdhlgmclogdplaaDoorTxtB
import Derived.Deep.QuietTactic
namespace Go.Proofs.YtdhlgmclogdplaaDoor
open Go.RowKit
set_option linter.unusedVariables false
set_option linter.unusedSimpArgs false
theorem nx_cell (w : World) (b i : Nat) (o : Nat) (j : Nat) (h : j ≠ b) : (nx w b i).cell? ⟨j, o, none⟩ = w.cell? ⟨j, o, none⟩ := by
  unfold World.cell?; rw [show (nx w b i).heap[(⟨j, o, none⟩ : Addr).block]? = w.heap[j]? from nx_ne w b i j h]
theorem nx_frozen (w : World) (b i : Nat) (o : Nat) (j : Nat) (h : j ≠ b) : (nx w b i).frozen? ⟨j, o, none⟩ = w.frozen? ⟨j, o, none⟩ := by
  unfold World.frozen?; rw [show (nx w b i).heap[(⟨j, o, none⟩ : Addr).block]? = w.heap[j]? from nx_ne w b i j h]
/-- the cells of the parts -/
def PC (S : ByteArray) (B i : Nat) (w2 : World) : Prop :=
  w2.cell? ⟨B, 0, none⟩ = some (.int .i64 (pt S i 0)) ∧ w2.cell? ⟨B, 1, none⟩ = some (.int .i64 (pt S i 1)) ∧ w2.cell? ⟨B, 2, none⟩ = some (.int .i64 (pt S i 2)) ∧ w2.cell? ⟨B, 3, none⟩ = some (.int .i64 (pt S i 3)) ∧ w2.cell? ⟨B, 4, none⟩ = some (.int .i64 (pt S i 4)) ∧ w2.cell? ⟨B, 5, none⟩ = some (.int .i64 (pt S i 5))
def PZ (B : Nat) (wr : World) : Prop :=
  wr.frozen? ⟨B, 0, none⟩ = false ∧ wr.frozen? ⟨B, 1, none⟩ = false ∧ wr.frozen? ⟨B, 2, none⟩ = false ∧ wr.frozen? ⟨B, 3, none⟩ = false ∧ wr.frozen? ⟨B, 4, none⟩ = false ∧ wr.frozen? ⟨B, 5, none⟩ = false
/-- what is known behind 'next' -/
def PN (S : ByteArray) (w : World) (i : Nat) (w2 : World) : Prop :=
  Q w w2 ∧ w2.heap[w.heap.size + 1]? = some (.stringIter F (i + 1)) ∧ w.heap.size + 1 < w2.heap.size ∧ PC S w.heap.size i w2 ∧ PZ w.heap.size w2
theorem PR.next {S : ByteArray} {w wr : World} {i : Nat} {v : Value} (h : PR S w w.heap.size i v wr) (hlt : i < 19) :
    ∃ w2, PN S w i w2 ∧ ∀ ty, (Instr.next (.pointer (some ⟨w.heap.size + 1, 0, none⟩)) true ty).run Tryd.prog wr = .ok (.tuple #[.bool true, .int .i64 (i : Int), .int .i32 (fb i)]) w2 := by
  obtain ⟨hi, rfl, hq, hit, hbs, hok, c0, c1, c2, c3, c4, c5, z0, z1, z2, z3, z4, z5⟩ := h
  refine ⟨nx wr (w.heap.size + 1) (i + 1), ⟨nx_q _ _ _ _ hq (by omega), nx_at _ _ _ hbs, by rw [nx_size]; exact hbs, ?_, ?_⟩, next_row wr _ i hlt hit⟩
  · refine ⟨?_, ?_, ?_, ?_, ?_, ?_⟩ <;> rw [nx_cell _ _ _ _ _ (by omega)] <;> assumption
  · refine ⟨?_, ?_, ?_, ?_, ?_, ?_⟩ <;> rw [nx_frozen _ _ _ _ _ (by omega)] <;> assumption
theorem PN.dig {S : ByteArray} {w w2 : World} {i k : Nat} (h : PN S w i w2) (hlt : i < 19) (hf : fb i = 48) (hg : 48 ≤ gb S i ∧ gb S i ≤ 57) (hok : ∀ j, j < i → ok1 S j) (hk : kk i = k) (n : Nat) :
    PR S w w.heap.size (i + 1) (.int .i64 (k : Int)) ((w2.drewN n).setCell ⟨w.heap.size, k, none⟩ (.int .i64 (pt S i k * 10 + (gb S i - 48)))) := by
  subst hk
  obtain ⟨q, hit, hbs, ⟨c0, c1, c2, c3, c4, c5⟩, z⟩ := h
  have hk5 := kk_le i (by omega)
  refine ⟨by omega, by rw [kk_dig i hlt hf], Q.setCell (q.drewN n) (Nat.le_refl _) _, ?_, by rw [World.size_setCell]; exact hbs, ?_, ?_, ?_, ?_, ?_, ?_, ?_, ?_⟩
  · rw [heap_setCell_other _ _ _ _ (by show w.heap.size + 1 ≠ w.heap.size; omega)]; exact hit
  · intro j hj
    rcases Nat.lt_or_ge j i with g | g
    · exact hok j g
    · have : j = i := by omega
      subst this; exact Or.inl ⟨hf, hg⟩
  case refine_9 =>
    obtain ⟨z0, z1, z2, z3, z4, z5⟩ := z
    refine ⟨?_, ?_, ?_, ?_, ?_, ?_⟩ <;> rw [World.frozen?_setCell] <;> assumption
  all_goals
    rcases (show kk i = 0 ∨ kk i = 1 ∨ kk i = 2 ∨ kk i = 3 ∨ kk i = 4 ∨ kk i = 5 by omega) with e | e | e | e | e | e
    all_goals
      rw [e]
      first
        | (rw [pt_next S i _ hf e]; exact World.cell?_setCell_same _ _ _ (by assumption))
        | (rw [pt_same S i _ (Or.inr (by rw [e]; decide))]; rw [World.cell?_setCell_other _ _ _ _ (by simp)]; assumption)
theorem PN.sep {S : ByteArray} {w w2 : World} {i k : Nat} (h : PN S w i w2) (hlt : i < 19) (hf : fb i ≠ 48) (hg : gb S i = fb i) (hok : ∀ j, j < i → ok1 S j) (hk : kk i = k) (n : Nat) :
    PR S w w.heap.size (i + 1) (.int .i64 ((k : Int) + 1)) (w2.drewN n) := by
  subst hk
  obtain ⟨q, hit, hbs, ⟨c0, c1, c2, c3, c4, c5⟩, z⟩ := h
  refine ⟨by omega, by rw [kk_sep i hlt hf]; push_cast; rfl, q.drewN n, hit, hbs, ?_, ?_, ?_, ?_, ?_, ?_, ?_, z⟩
  · intro j hj
    rcases Nat.lt_or_ge j i with g | g
    · exact hok j g
    · have : j = i := by omega
      subst this; exact Or.inr ⟨hf, hg⟩
  all_goals rw [pt_same S i _ (Or.inl hf)]; assumption
end Go.Proofs.YtdhlgmclogdplaaDoor
