import Derived.Test.YtpenjmflkhhdgaaZonE
import Derived.Outline
namespace Go.Proofs.Ytpenjmflkhhdgaa
open Go.RowKit
set_option linter.unusedVariables false
theorem parse_len (s : ByteArray) (h : s.size ≠ 6) (w : World) :
    Calls Try.prog 16 #[.string s] w fun e w' => e = .returned (.tuple #[.int .i64 0, .int .i64 10]) ∧ Q w w' := by
  have hb : ((s.size : Int) != 6) = true := bne_t (by omega)
  go_enter Try.func16, Try.ntmps16
  go_wp2_with fail
  go_ret2
  exact ⟨rfl, Q.refl _⟩
theorem parse_1l (x0 x1 x2 x3 x4 x5 : Int) (h0 : 0 ≤ x0 ∧ x0 < 256) (h1 : 0 ≤ x1 ∧ x1 < 256) (h2 : 0 ≤ x2 ∧ x2 < 256) (h3 : 0 ≤ x3 ∧ x3 < 256) (h4 : 0 ≤ x4 ∧ x4 < 256) (h5 : 0 ≤ x5 ∧ x5 < 256)  (h : x1 < 48) (w : World) :
    Calls Try.prog 16 #[.string (b6 x0 x1 x2 x3 x4 x5)] w fun e w' => e = .returned (.tuple #[.int .i64 0, .int .i64 10]) ∧ Q w w' := by
  have hcp := copy6' w x0 x1 x2 x3 x4 x5 h0 h1 h2 h3 h4 h5
  have hsz := b6_size x0 x1 x2 x3 x4 x5
  have k0 := kdx0
  go_enter Try.func16, Try.ntmps16
  go_wp2_with fail
  refine wp_loop_rounds 5 ?_; rw [rounds_succ]
  go_wp2_with fail
  go_ret2
  exact ⟨rfl, (Q.refl _).alloc _⟩
theorem parse_1g (x0 x1 x2 x3 x4 x5 : Int) (h0 : 0 ≤ x0 ∧ x0 < 256) (h1 : 0 ≤ x1 ∧ x1 < 256) (h2 : 0 ≤ x2 ∧ x2 < 256) (h3 : 0 ≤ x3 ∧ x3 < 256) (h4 : 0 ≤ x4 ∧ x4 < 256) (h5 : 0 ≤ x5 ∧ x5 < 256)  (h : 57 < x1) (w : World) :
    Calls Try.prog 16 #[.string (b6 x0 x1 x2 x3 x4 x5)] w fun e w' => e = .returned (.tuple #[.int .i64 0, .int .i64 10]) ∧ Q w w' := by
  have hcp := copy6' w x0 x1 x2 x3 x4 x5 h0 h1 h2 h3 h4 h5
  have hsz := b6_size x0 x1 x2 x3 x4 x5
  have k0 := kdx0
  go_enter Try.func16, Try.ntmps16
  go_wp2_with fail
  refine wp_loop_rounds 5 ?_; rw [rounds_succ]
  go_wp2_with fail
  go_ret2
  exact ⟨rfl, (Q.refl _).alloc _⟩
theorem parse_2l (x0 x1 x2 x3 x4 x5 : Int) (h0 : 0 ≤ x0 ∧ x0 < 256) (h1 : 0 ≤ x1 ∧ x1 < 256) (h2 : 0 ≤ x2 ∧ x2 < 256) (h3 : 0 ≤ x3 ∧ x3 < 256) (h4 : 0 ≤ x4 ∧ x4 < 256) (h5 : 0 ≤ x5 ∧ x5 < 256) (d1 : 48 ≤ x1 ∧ x1 ≤ 57) (h : x2 < 48) (w : World) :
    Calls Try.prog 16 #[.string (b6 x0 x1 x2 x3 x4 x5)] w fun e w' => e = .returned (.tuple #[.int .i64 0, .int .i64 10]) ∧ Q w w' := by
  have hcp := copy6' w x0 x1 x2 x3 x4 x5 h0 h1 h2 h3 h4 h5
  have hsz := b6_size x0 x1 x2 x3 x4 x5
  have k0 := kdx0
  have k1 := kdx1
  go_enter Try.func16, Try.ntmps16
  go_wp2_with fail
  refine wp_loop_rounds 5 ?_; rw [rounds_succ]
  go_wp2_with fail
  rw [rounds_succ]
  go_wp2_with fail
  go_ret2
  exact ⟨rfl, (Q.refl _).alloc _⟩
theorem parse_2g (x0 x1 x2 x3 x4 x5 : Int) (h0 : 0 ≤ x0 ∧ x0 < 256) (h1 : 0 ≤ x1 ∧ x1 < 256) (h2 : 0 ≤ x2 ∧ x2 < 256) (h3 : 0 ≤ x3 ∧ x3 < 256) (h4 : 0 ≤ x4 ∧ x4 < 256) (h5 : 0 ≤ x5 ∧ x5 < 256) (d1 : 48 ≤ x1 ∧ x1 ≤ 57) (h : 57 < x2) (w : World) :
    Calls Try.prog 16 #[.string (b6 x0 x1 x2 x3 x4 x5)] w fun e w' => e = .returned (.tuple #[.int .i64 0, .int .i64 10]) ∧ Q w w' := by
  have hcp := copy6' w x0 x1 x2 x3 x4 x5 h0 h1 h2 h3 h4 h5
  have hsz := b6_size x0 x1 x2 x3 x4 x5
  have k0 := kdx0
  have k1 := kdx1
  go_enter Try.func16, Try.ntmps16
  go_wp2_with fail
  refine wp_loop_rounds 5 ?_; rw [rounds_succ]
  go_wp2_with fail
  rw [rounds_succ]
  go_wp2_with fail
  go_ret2
  exact ⟨rfl, (Q.refl _).alloc _⟩
theorem parse_4l (x0 x1 x2 x3 x4 x5 : Int) (h0 : 0 ≤ x0 ∧ x0 < 256) (h1 : 0 ≤ x1 ∧ x1 < 256) (h2 : 0 ≤ x2 ∧ x2 < 256) (h3 : 0 ≤ x3 ∧ x3 < 256) (h4 : 0 ≤ x4 ∧ x4 < 256) (h5 : 0 ≤ x5 ∧ x5 < 256) (d1 : 48 ≤ x1 ∧ x1 ≤ 57) (d2 : 48 ≤ x2 ∧ x2 ≤ 57) (h : x4 < 48) (w : World) :
    Calls Try.prog 16 #[.string (b6 x0 x1 x2 x3 x4 x5)] w fun e w' => e = .returned (.tuple #[.int .i64 0, .int .i64 10]) ∧ Q w w' := by
  have hcp := copy6' w x0 x1 x2 x3 x4 x5 h0 h1 h2 h3 h4 h5
  have hsz := b6_size x0 x1 x2 x3 x4 x5
  have k0 := kdx0
  have k1 := kdx1
  have k2 := kdx2
  go_enter Try.func16, Try.ntmps16
  go_wp2_with fail
  refine wp_loop_rounds 5 ?_; rw [rounds_succ]
  go_wp2_with fail
  rw [rounds_succ]
  go_wp2_with fail
  rw [rounds_succ]
  go_wp2_with fail
  go_ret2
  exact ⟨rfl, (Q.refl _).alloc _⟩
theorem parse_4g (x0 x1 x2 x3 x4 x5 : Int) (h0 : 0 ≤ x0 ∧ x0 < 256) (h1 : 0 ≤ x1 ∧ x1 < 256) (h2 : 0 ≤ x2 ∧ x2 < 256) (h3 : 0 ≤ x3 ∧ x3 < 256) (h4 : 0 ≤ x4 ∧ x4 < 256) (h5 : 0 ≤ x5 ∧ x5 < 256) (d1 : 48 ≤ x1 ∧ x1 ≤ 57) (d2 : 48 ≤ x2 ∧ x2 ≤ 57) (h : 57 < x4) (w : World) :
    Calls Try.prog 16 #[.string (b6 x0 x1 x2 x3 x4 x5)] w fun e w' => e = .returned (.tuple #[.int .i64 0, .int .i64 10]) ∧ Q w w' := by
  have hcp := copy6' w x0 x1 x2 x3 x4 x5 h0 h1 h2 h3 h4 h5
  have hsz := b6_size x0 x1 x2 x3 x4 x5
  have k0 := kdx0
  have k1 := kdx1
  have k2 := kdx2
  go_enter Try.func16, Try.ntmps16
  go_wp2_with fail
  refine wp_loop_rounds 5 ?_; rw [rounds_succ]
  go_wp2_with fail
  rw [rounds_succ]
  go_wp2_with fail
  rw [rounds_succ]
  go_wp2_with fail
  go_ret2
  exact ⟨rfl, (Q.refl _).alloc _⟩
theorem parse_5l (x0 x1 x2 x3 x4 x5 : Int) (h0 : 0 ≤ x0 ∧ x0 < 256) (h1 : 0 ≤ x1 ∧ x1 < 256) (h2 : 0 ≤ x2 ∧ x2 < 256) (h3 : 0 ≤ x3 ∧ x3 < 256) (h4 : 0 ≤ x4 ∧ x4 < 256) (h5 : 0 ≤ x5 ∧ x5 < 256) (d1 : 48 ≤ x1 ∧ x1 ≤ 57) (d2 : 48 ≤ x2 ∧ x2 ≤ 57) (d4 : 48 ≤ x4 ∧ x4 ≤ 57) (h : x5 < 48) (w : World) :
    Calls Try.prog 16 #[.string (b6 x0 x1 x2 x3 x4 x5)] w fun e w' => e = .returned (.tuple #[.int .i64 0, .int .i64 10]) ∧ Q w w' := by
  have hcp := copy6' w x0 x1 x2 x3 x4 x5 h0 h1 h2 h3 h4 h5
  have hsz := b6_size x0 x1 x2 x3 x4 x5
  have k0 := kdx0
  have k1 := kdx1
  have k2 := kdx2
  have k3 := kdx3
  go_enter Try.func16, Try.ntmps16
  go_wp2_with fail
  refine wp_loop_rounds 5 ?_; rw [rounds_succ]
  go_wp2_with fail
  rw [rounds_succ]
  go_wp2_with fail
  rw [rounds_succ]
  go_wp2_with fail
  rw [rounds_succ]
  go_wp2_with fail
  go_ret2
  exact ⟨rfl, (Q.refl _).alloc _⟩
theorem parse_5g (x0 x1 x2 x3 x4 x5 : Int) (h0 : 0 ≤ x0 ∧ x0 < 256) (h1 : 0 ≤ x1 ∧ x1 < 256) (h2 : 0 ≤ x2 ∧ x2 < 256) (h3 : 0 ≤ x3 ∧ x3 < 256) (h4 : 0 ≤ x4 ∧ x4 < 256) (h5 : 0 ≤ x5 ∧ x5 < 256) (d1 : 48 ≤ x1 ∧ x1 ≤ 57) (d2 : 48 ≤ x2 ∧ x2 ≤ 57) (d4 : 48 ≤ x4 ∧ x4 ≤ 57) (h : 57 < x5) (w : World) :
    Calls Try.prog 16 #[.string (b6 x0 x1 x2 x3 x4 x5)] w fun e w' => e = .returned (.tuple #[.int .i64 0, .int .i64 10]) ∧ Q w w' := by
  have hcp := copy6' w x0 x1 x2 x3 x4 x5 h0 h1 h2 h3 h4 h5
  have hsz := b6_size x0 x1 x2 x3 x4 x5
  have k0 := kdx0
  have k1 := kdx1
  have k2 := kdx2
  have k3 := kdx3
  go_enter Try.func16, Try.ntmps16
  go_wp2_with fail
  refine wp_loop_rounds 5 ?_; rw [rounds_succ]
  go_wp2_with fail
  rw [rounds_succ]
  go_wp2_with fail
  rw [rounds_succ]
  go_wp2_with fail
  rw [rounds_succ]
  go_wp2_with fail
  go_ret2
  exact ⟨rfl, (Q.refl _).alloc _⟩
end Go.Proofs.Ytpenjmflkhhdgaa
