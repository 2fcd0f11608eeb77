/- The contract of civil.Parse: the loop's plain words. -/
import Derived.Test.YtdhlgmclogdplaaDoorTxtA
import Derived.Laws.RangeAny
namespace Go.Proofs.YtdhlgmclogdplaaDoor
open Go.RowKit
set_option linter.unusedVariables false
set_option linter.unusedSimpArgs false
/-- the form, its bytes as numbers, and the parts ahead of each byte -/
def F : ByteArray := ⟨#[48, 48, 48, 48, 45, 48, 48, 45, 48, 48, 32, 48, 48, 58, 48, 48, 58, 48, 48]⟩
def fb (i : Nat) : Int := [48, 48, 48, 48, 45, 48, 48, 45, 48, 48, 32, 48, 48, 58, 48, 48, 58, 48, 48].getD i 0
def kk (i : Nat) : Nat := [0, 0, 0, 0, 0, 1, 1, 1, 2, 2, 2, 3, 3, 3, 4, 4, 4, 5, 5, 5].getD i 0
/-- the text's bytes -/
def gb (S : ByteArray) (i : Nat) : Int := if h : i < S.size then ((S[i]'h).toNat : Int) else 0
theorem gb_bd (S : ByteArray) (i : Nat) : 0 ≤ gb S i ∧ gb S i < 256 := by
  unfold gb
  split
  · have := (S[i]).toNat_lt; omega
  · omega
def ok1 (S : ByteArray) (i : Nat) : Prop := (fb i = 48 ∧ 48 ≤ gb S i ∧ gb S i ≤ 57) ∨ (fb i ≠ 48 ∧ gb S i = fb i)
/-- part j after i bytes -/
def pt (S : ByteArray) : Nat → Nat → Int
  | 0, _ => 0
  | i + 1, j => if fb i = 48 ∧ kk i = j then pt S i j * 10 + (gb S i - 48) else pt S i j
/-- the rules that the bytes are read by -/
theorem sx (S : ByteArray) (hsz : S.size = 19) (i : Nat) (hi : i < 19) (w : World) : (Instr.index 9 (.string S) (.int .i64 (i : Int))).run Tryd.prog w = .ok (.int .u8 (gb S i)) w := by
  rw [run_index_string w 9 S .i64 (i : Int) Tryd.underlying9, dif_pos (by omega)]
  unfold gb
  rw [dif_pos (by omega)]
  rfl
theorem fx (i : Nat) (hi : i < 19) (w : World) : (Instr.index 9 (.string F) (.int .i64 (i : Int))).run Tryd.prog w = .ok (.int .u8 (fb i)) w := by
  rw [run_index_string w 9 F .i64 (i : Int) Tryd.underlying9, dif_pos (by have : F.size = 19 := rfl; omega)]
  rcases (show i = 0 ∨ i = 1 ∨ i = 2 ∨ i = 3 ∨ i = 4 ∨ i = 5 ∨ i = 6 ∨ i = 7 ∨ i = 8 ∨ i = 9 ∨ i = 10 ∨ i = 11 ∨ i = 12 ∨ i = 13 ∨ i = 14 ∨ i = 15 ∨ i = 16 ∨ i = 17 ∨ i = 18 by omega) with rfl | rfl | rfl | rfl | rfl | rfl | rfl | rfl | rfl | rfl | rfl | rfl | rfl | rfl | rfl | rfl | rfl | rfl | rfl <;> rfl
/-- the world whose iterator stands one further -/
def nx (w : World) (b i : Nat) : World := { w with heap := w.heap.setIfInBounds b (.stringIter F i) }
theorem nx_at (w : World) (b i : Nat) (h : b < w.heap.size) : (nx w b i).heap[b]? = some (.stringIter F i) := by
  simp [nx, Array.getElem?_setIfInBounds, h]
theorem nx_ne (w : World) (b i j : Nat) (h : j ≠ b) : (nx w b i).heap[j]? = w.heap[j]? := by
  show (w.heap.setIfInBounds b _)[j]? = _
  rw [Array.getElem?_setIfInBounds, if_neg (by omega)]
theorem nx_size (w : World) (b i : Nat) : (nx w b i).heap.size = w.heap.size := by
  show (w.heap.setIfInBounds b _).size = _
  rw [Array.size_setIfInBounds]
theorem nx_q (w0 w : World) (b i : Nat) (h : Q w0 w) (hb : w0.heap.size ≤ b) : Q w0 (nx w b i) := by
  obtain ⟨q1, q2, q3, q4, q5⟩ := h
  refine ⟨q1, q2, q3, ?_, ?_⟩
  · rw [nx_size]; exact q4
  · intro j hj
    rw [nx_ne _ _ _ _ (by omega)]
    exact q5 j hj
theorem next_row (w : World) (b i : Nat) (hi : i < 19) (h : w.heap[b]? = some (.stringIter F i)) (ty : TypeId) :
    (Instr.next (.pointer (some ⟨b, 0, none⟩)) true ty).run Tryd.prog w = .ok (.tuple #[.bool true, .int .i64 (i : Int), .int .i32 (fb i)]) (nx w b (i + 1)) := by
  have hd : Utf8.decode F i = ((fb i).toNat, 1) := by
    rcases (show i = 0 ∨ i = 1 ∨ i = 2 ∨ i = 3 ∨ i = 4 ∨ i = 5 ∨ i = 6 ∨ i = 7 ∨ i = 8 ∨ i = 9 ∨ i = 10 ∨ i = 11 ∨ i = 12 ∨ i = 13 ∨ i = 14 ∨ i = 15 ∨ i = 16 ∨ i = 17 ∨ i = 18 by omega) with rfl | rfl | rfl | rfl | rfl | rfl | rfl | rfl | rfl | rfl | rfl | rfl | rfl | rfl | rfl | rfl | rfl | rfl | rfl <;> rfl
  have hf : ((fb i).toNat : Int) = fb i := by
    rcases (show i = 0 ∨ i = 1 ∨ i = 2 ∨ i = 3 ∨ i = 4 ∨ i = 5 ∨ i = 6 ∨ i = 7 ∨ i = 8 ∨ i = 9 ∨ i = 10 ∨ i = 11 ∨ i = 12 ∨ i = 13 ∨ i = 14 ∨ i = 15 ∨ i = 16 ∨ i = 17 ∨ i = 18 by omega) with rfl | rfl | rfl | rfl | rfl | rfl | rfl | rfl | rfl | rfl | rfl | rfl | rfl | rfl | rfl | rfl | rfl | rfl | rfl <;> rfl
  have hs : i < F.size := hi
  have hb : b < w.heap.size := by
    rcases Nat.lt_or_ge b w.heap.size with g | g
    · exact g
    · rw [Array.getElem?_eq_none g] at h; cases h
  simp only [Instr.next, getObj, setObj, Sem.run_bind, Sem.run, h, Result.andThen, hs, if_true, hd, hf]
  simp [goInt, Sem.run, nx]
theorem next_last (w : World) (b : Nat) (h : w.heap[b]? = some (.stringIter F 19)) (ty : TypeId) :
    (Instr.next (.pointer (some ⟨b, 0, none⟩)) true ty).run Tryd.prog w = .ok (.tuple #[.bool false]) w := by
  have hs : ¬ 19 < F.size := by decide
  simp [Instr.next, getObj, Sem.run, h, hs]
theorem kk_le (i : Nat) (h : i ≤ 19) : kk i ≤ 5 := by
  have : ∀ i, i < 20 → kk i ≤ 5 := by decide
  exact this i (by omega)
theorem kk_dig (i : Nat) (h : i < 19) (hf : fb i = 48) : kk (i + 1) = kk i := by
  have : ∀ i, i < 19 → fb i = 48 → kk (i + 1) = kk i := by decide
  exact this i h hf
theorem kk_sep (i : Nat) (h : i < 19) (hf : fb i ≠ 48) : kk (i + 1) = kk i + 1 := by
  have : ∀ i, i < 19 → fb i ≠ 48 → kk (i + 1) = kk i + 1 := by decide
  exact this i h hf
/-- how many digits of part j stand ahead of byte i -/
def ln : Nat → Nat → Nat
  | 0, _ => 0
  | i + 1, j => if fb i = 48 ∧ kk i = j then ln i j + 1 else ln i j
theorem pt_bd (S : ByteArray) (i j : Nat) (h : ∀ k, k < i → ok1 S k) : 0 ≤ pt S i j ∧ pt S i j < 10 ^ (ln i j) := by
  induction i with
  | zero => simp [pt, ln]
  | succ i ih =>
    have h1 := ih (fun k hk => h k (by omega))
    have h2 := h i (by omega)
    simp only [pt, ln]
    by_cases hc : fb i = 48 ∧ kk i = j
    · rw [if_pos hc, if_pos hc, Int.pow_succ]
      have : 48 ≤ gb S i ∧ gb S i ≤ 57 := by
        rcases h2 with g | g
        · exact g.2
        · exact absurd hc.1 g.1
      omega
    · rw [if_neg hc, if_neg hc]; exact h1
theorem ln_dig (i : Nat) (h : i < 19) (hf : fb i = 48) : ln i (kk i) ≤ 3 := by
  have : ∀ i, i < 19 → fb i = 48 → ln i (kk i) ≤ 3 := by decide
  exact this i h hf
theorem pt_dig (S : ByteArray) (i : Nat) (h : i < 19) (hf : fb i = 48) (hk : ∀ k, k < i → ok1 S k) : 0 ≤ pt S i (kk i) ∧ pt S i (kk i) ≤ 999 := by
  have h1 := pt_bd S i (kk i) hk
  have h2 := ln_dig i h hf
  have h3 : (10 : Int) ^ (ln i (kk i)) ≤ 1000 := by
    rcases (show ln i (kk i) = 0 ∨ ln i (kk i) = 1 ∨ ln i (kk i) = 2 ∨ ln i (kk i) = 3 by omega) with e | e | e | e <;> rw [e] <;> decide
  omega
theorem pt_next (S : ByteArray) (i j : Nat) (hf : fb i = 48) (hj : kk i = j) : pt S (i + 1) j = pt S i j * 10 + (gb S i - 48) := by
  simp only [pt]; rw [if_pos ⟨hf, hj⟩]
theorem pt_same (S : ByteArray) (i j : Nat) (h : fb i ≠ 48 ∨ kk i ≠ j) : pt S (i + 1) j = pt S i j := by
  simp only [pt]; rw [if_neg (by omega)]
/-- the loop's relation -/
def PR (S : ByteArray) (w : World) (B : Nat) (i : Nat) (vk : Value) (wr : World) : Prop :=
  i ≤ 19 ∧ vk = .int .i64 (kk i) ∧ Q w wr ∧ wr.heap[B + 1]? = some (.stringIter F i) ∧ B + 1 < wr.heap.size ∧ (∀ j, j < i → ok1 S j) ∧
  wr.cell? ⟨B, 0, none⟩ = some (.int .i64 (pt S i 0)) ∧ wr.cell? ⟨B, 1, none⟩ = some (.int .i64 (pt S i 1)) ∧ wr.cell? ⟨B, 2, none⟩ = some (.int .i64 (pt S i 2)) ∧ wr.cell? ⟨B, 3, none⟩ = some (.int .i64 (pt S i 3)) ∧ wr.cell? ⟨B, 4, none⟩ = some (.int .i64 (pt S i 4)) ∧ wr.cell? ⟨B, 5, none⟩ = some (.int .i64 (pt S i 5)) ∧
  wr.frozen? ⟨B, 0, none⟩ = false ∧ wr.frozen? ⟨B, 1, none⟩ = false ∧ wr.frozen? ⟨B, 2, none⟩ = false ∧ wr.frozen? ⟨B, 3, none⟩ = false ∧ wr.frozen? ⟨B, 4, none⟩ = false ∧ wr.frozen? ⟨B, 5, none⟩ = false
end Go.Proofs.YtdhlgmclogdplaaDoor
