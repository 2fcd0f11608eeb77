import Derived.Test.YtpenjmflkhhdgaaZonD
import Derived.Lib.BufferWrite
import Derived.Outline
namespace Go.Proofs.Ytpenjmflkhhdgaa
open Go.RowKit
theorem heap_new (w : World) (o : Obj) : (w.alloc o).heap[w.heap.size]? = some o := by
  show (w.heap.push o)[w.heap.size]? = some o
  simp
theorem push_modify {α} (xs : Array α) (o : α) (f : α → α) : (xs.push o).modify xs.size f = xs.push (f o) := by
  apply Array.ext
  · simp
  · intro i h1 h2
    simp [Array.getElem_modify, Array.getElem_push]
    split
    · rename_i h; subst h; simp
    · split
      · rfl
      · simp at h2; omega
theorem copy6 (w : World) (a0 a1 a2 a3 a4 a5 : UInt8) :
   (Builtin.copy_ #[56, 9] 3 #[.slice (some ⟨w.heap.size, 0, none⟩) 6 6, .string ⟨#[a0, a1, a2, a3, a4, a5]⟩]).run Try.prog (w.alloc (.cells #[.int .u8 0, .int .u8 0, .int .u8 0, .int .u8 0, .int .u8 0, .int .u8 0] 54)) = .ok (.int .i64 6) (w.alloc (.cells #[.int .u8 (a0.toNat : Int), .int .u8 (a1.toNat : Int), .int .u8 (a2.toNat : Int), .int .u8 (a3.toNat : Int), .int .u8 (a4.toNat : Int), .int .u8 (a5.toNat : Int)] 54)) := by
  rw [Lib.run_copy_row_string (P := Try.prog) _ 56 9 3 5 w.heap.size 0 6 6 ⟨#[a0, a1, a2, a3, a4, a5]⟩ #[.int .u8 0, .int .u8 0, .int .u8 0, .int .u8 0, .int .u8 0, .int .u8 0] 54 Try.underlying56 rfl (heap_new w _) (Nat.le_refl 6) (Nat.le_refl 6)]
  have e : (Go.Lib.byteCells (ByteArray.mk #[a0, a1, a2, a3, a4, a5]).data.toList) = [.int .u8 (a0.toNat : Int), .int .u8 (a1.toNat : Int), .int .u8 (a2.toNat : Int), .int .u8 (a3.toNat : Int), .int .u8 (a4.toNat : Int), .int .u8 (a5.toNat : Int)] := rfl
  rw [e]
  simp [World.setRow, ByteArray.size]
  refine ⟨rfl, ?_⟩
  unfold World.alloc
  dsimp only
  rw [push_modify]
theorem kdx0 (w : World) : (Instr.index 58 (.agg #[.int .i64 1, .int .i64 2, .int .i64 4, .int .i64 5]) (.int .i64 0)).run Try.prog w = .ok (.int .i64 1) w := by kernel_rfl
theorem kdx1 (w : World) : (Instr.index 58 (.agg #[.int .i64 1, .int .i64 2, .int .i64 4, .int .i64 5]) (.int .i64 1)).run Try.prog w = .ok (.int .i64 2) w := by kernel_rfl
theorem kdx2 (w : World) : (Instr.index 58 (.agg #[.int .i64 1, .int .i64 2, .int .i64 4, .int .i64 5]) (.int .i64 2)).run Try.prog w = .ok (.int .i64 4) w := by kernel_rfl
theorem kdx3 (w : World) : (Instr.index 58 (.agg #[.int .i64 1, .int .i64 2, .int .i64 4, .int .i64 5]) (.int .i64 3)).run Try.prog w = .ok (.int .i64 5) w := by kernel_rfl
/-- six bytes as numbers -/
def b6 (x0 x1 x2 x3 x4 x5 : Int) : ByteArray := strOfNums [x0, x1, x2, x3, x4, x5]
theorem copy6' (w : World) (x0 x1 x2 x3 x4 x5 : Int) (h0 : 0 ≤ x0 ∧ x0 < 256) (h1 : 0 ≤ x1 ∧ x1 < 256) (h2 : 0 ≤ x2 ∧ x2 < 256) (h3 : 0 ≤ x3 ∧ x3 < 256) (h4 : 0 ≤ x4 ∧ x4 < 256) (h5 : 0 ≤ x5 ∧ x5 < 256) :
   (Builtin.copy_ #[56, 9] 3 #[.slice (some ⟨w.heap.size, 0, none⟩) 6 6, .string (b6 x0 x1 x2 x3 x4 x5)]).run Try.prog (w.alloc (.cells #[.int .u8 0, .int .u8 0, .int .u8 0, .int .u8 0, .int .u8 0, .int .u8 0] 54)) = .ok (.int .i64 6) (w.alloc (.cells #[.int .u8 x0, .int .u8 x1, .int .u8 x2, .int .u8 x3, .int .u8 x4, .int .u8 x5] 54)) := by
  have hb : ∀ x : Int, 0 ≤ x ∧ x < 256 → (((UInt8.ofNat x.toNat).toNat : Nat) : Int) = x := by
    intro x hx; simp; omega
  have := copy6 w (UInt8.ofNat x0.toNat) (UInt8.ofNat x1.toNat) (UInt8.ofNat x2.toNat) (UInt8.ofNat x3.toNat) (UInt8.ofNat x4.toNat) (UInt8.ofNat x5.toNat)
  rw [hb _ h0, hb _ h1, hb _ h2, hb _ h3, hb _ h4, hb _ h5] at this
  exact this
theorem b6_size (x0 x1 x2 x3 x4 x5 : Int) : (b6 x0 x1 x2 x3 x4 x5).size = 6 := rfl
theorem b6_of (s : ByteArray) (h : s.size = 6) : ∃ x0 x1 x2 x3 x4 x5 : Int, (0 ≤ x0 ∧ x0 < 256) ∧ (0 ≤ x1 ∧ x1 < 256) ∧ (0 ≤ x2 ∧ x2 < 256) ∧ (0 ≤ x3 ∧ x3 < 256) ∧ (0 ≤ x4 ∧ x4 < 256) ∧ (0 ≤ x5 ∧ x5 < 256) ∧ s = b6 x0 x1 x2 x3 x4 x5 := by
  obtain ⟨⟨l⟩⟩ := s
  have hl : l.length = 6 := h
  match l, hl with
  | [a0, a1, a2, a3, a4, a5], _ =>
    have hr : ∀ a : UInt8, 0 ≤ (a.toNat : Int) ∧ (a.toNat : Int) < 256 := by intro a; have := a.toNat_lt; omega
    refine ⟨a0.toNat, a1.toNat, a2.toNat, a3.toNat, a4.toNat, a5.toNat, hr _, hr _, hr _, hr _, hr _, hr _, ?_⟩
    simp [b6, strOfNums]
theorem eq_u8 (d : Nat) (a b : Int) (w : World) : (Op.equalIn (d + 1) 5 (.int .u8 a) (.int .u8 b)).run Try.prog w = .ok (a == b) w := run_equalIn_int w d 5 .u8 .u8 a b Try.underlying5
theorem neqs (a b c d e f a' b' c' d' e' f' : Int) (w : World) : (binOp .neq 54 (.agg #[.int .u8 a, .int .u8 b, .int .u8 c, .int .u8 d, .int .u8 e, .int .u8 f]) (.agg #[.int .u8 a', .int .u8 b', .int .u8 c', .int .u8 d', .int .u8 e', .int .u8 f'])).run Try.prog w = .ok (.bool (!(a == a' && (b == b' && (c == c' && (d == d' && (e == e' && f == f'))))))) w := by
  rw [run_neq_struct]
  rw [Op.equalIn]
  have r6 : List.range' 0 6 = [0, 1, 2, 3, 4, 5] := rfl
  have p0 (x0 x1 x2 x3 x4 x5 : Int) : (part 5 #[Value.int IntKind.u8 x0, Value.int IntKind.u8 x1, Value.int IntKind.u8 x2, Value.int IntKind.u8 x3, Value.int IntKind.u8 x4, Value.int IntKind.u8 x5] 0).run Try.prog w = .ok (.int .u8 x0) w := by rfl
  have p1 (x0 x1 x2 x3 x4 x5 : Int) : (part 5 #[Value.int IntKind.u8 x0, Value.int IntKind.u8 x1, Value.int IntKind.u8 x2, Value.int IntKind.u8 x3, Value.int IntKind.u8 x4, Value.int IntKind.u8 x5] 1).run Try.prog w = .ok (.int .u8 x1) w := by rfl
  have p2 (x0 x1 x2 x3 x4 x5 : Int) : (part 5 #[Value.int IntKind.u8 x0, Value.int IntKind.u8 x1, Value.int IntKind.u8 x2, Value.int IntKind.u8 x3, Value.int IntKind.u8 x4, Value.int IntKind.u8 x5] 2).run Try.prog w = .ok (.int .u8 x2) w := by rfl
  have p3 (x0 x1 x2 x3 x4 x5 : Int) : (part 5 #[Value.int IntKind.u8 x0, Value.int IntKind.u8 x1, Value.int IntKind.u8 x2, Value.int IntKind.u8 x3, Value.int IntKind.u8 x4, Value.int IntKind.u8 x5] 3).run Try.prog w = .ok (.int .u8 x3) w := by rfl
  have p4 (x0 x1 x2 x3 x4 x5 : Int) : (part 5 #[Value.int IntKind.u8 x0, Value.int IntKind.u8 x1, Value.int IntKind.u8 x2, Value.int IntKind.u8 x3, Value.int IntKind.u8 x4, Value.int IntKind.u8 x5] 4).run Try.prog w = .ok (.int .u8 x4) w := by rfl
  have p5 (x0 x1 x2 x3 x4 x5 : Int) : (part 5 #[Value.int IntKind.u8 x0, Value.int IntKind.u8 x1, Value.int IntKind.u8 x2, Value.int IntKind.u8 x3, Value.int IntKind.u8 x4, Value.int IntKind.u8 x5] 5).run Try.prog w = .ok (.int .u8 x5) w := by rfl
  have e8 := eq_u8 9998
  rcases Decidable.em (a = a') with h1 | h1
  · rcases Decidable.em (b = b') with h2 | h2
    · rcases Decidable.em (c = c') with h3 | h3
      · rcases Decidable.em (d = d') with h4 | h4
        · rcases Decidable.em (e = e') with h5 | h5
          · rcases Decidable.em (f = f') with h6 | h6 <;> simp [run_underlying Try.underlying54, r6, p0, p1, p2, p3, p4, p5, e8, h1, h2, h3, h4, h5, h6, Result.andThen]
          · simp [run_underlying Try.underlying54, r6, p0, p1, p2, p3, p4, e8, h1, h2, h3, h4, h5, Result.andThen]
        · simp [run_underlying Try.underlying54, r6, p0, p1, p2, p3, e8, h1, h2, h3, h4, Result.andThen]
      · simp [run_underlying Try.underlying54, r6, p0, p1, p2, e8, h1, h2, h3, Result.andThen]
    · simp [run_underlying Try.underlying54, r6, p0, p1, e8, h1, h2, Result.andThen]
  · simp [run_underlying Try.underlying54, r6, p0, e8, h1, Result.andThen]
end Go.Proofs.Ytpenjmflkhhdgaa
