/- The wheel's state; the contract of index. -/
import Derived.Test.YtnmgcjkffeeapaaDoorWhA
import Derived.Test.YtnmgcjkffeeapaaDoorBit
namespace Go.Proofs.YtnmgcjkffeeapaaDoor
open Go.RowKit
set_option linter.unusedVariables false
set_option linter.unusedSimpArgs false
/-- the words say which rows hold timers -/
def UsOk (us : Nat → Nat) (rows : Nat → List Nat) : Prop := ∀ L, L < 4 → us L < 2 ^ 64 ∧ ∀ s, s < 64 → (us L).testBit s = !(rows (64 * L + s)).isEmpty
/-- the wheel in memory -/
def Wl (F : Nat → Prop) (W A M n : Nat) (T t : Nat → Nat) (idf : Nat → Int) (now f seq : Nat) (rows : Nat → List Nat) (w : World) : Prop :=
  ∃ vs us, Rw W A M now f seq vs us w ∧ Rr F W n T t idf rows vs w ∧ UsOk us rows ∧ ∀ j i, i ∈ rows j → i < n
section
variable {F G : Nat → Prop} {W A M n now f seq : Nat} {T t : Nat → Nat} {idf : Nat → Int} {rows : Nat → List Nat} {w w' : World}
theorem Wl.fp (h : Wl F W A M n T t idf now f seq rows w) (hf : Fp G w w') (hn : ∀ b, F b → ¬ G b) : Wl F W A M n T t idf now f seq rows w' := by
  obtain ⟨vs, us, h1, h2, h3, h4⟩ := h
  exact ⟨vs, us, h1.fp hf (hn _ h2.FW), h2.fp hf (fun b hb _ => hn b hb), h3, h4⟩
theorem Wl.q (h : Wl F W A M n T t idf now f seq rows w) (hq : Q w w') : Wl F W A M n T t idf now f seq rows w' := h.fp (G := fun _ => False) (Fp.ofQ hq) (fun _ _ => id)
theorem Wl.FW (h : Wl F W A M n T t idf now f seq rows w) : F W := by
  obtain ⟨vs, us, h1, h2, h3, h4⟩ := h; exact h2.FW
theorem Wl.Fl (h : Wl F W A M n T t idf now f seq rows w) : ∀ b, F b → b < w.heap.size := by
  obtain ⟨vs, us, h1, h2, h3, h4⟩ := h; exact h2.Fl
theorem Wl.setFrom (h : Wl F W A M n T t idf now f seq rows w) (x : Nat) : Wl F W A M n T t idf now x seq rows (w.setCell ⟨W, 1, none⟩ (.int .i64 (x : Int))) := by
  obtain ⟨vs, us, h1, h2, h3, h4⟩ := h
  exact ⟨vs, us, h1.setFrom x, h2.setW _ _, h3, h4⟩
theorem Wl.setNow (h : Wl F W A M n T t idf now f seq rows w) (x : Nat) : Wl F W A M n T t idf x f seq rows (w.setCell ⟨W, 0, none⟩ (.int .i64 (x : Int))) := by
  obtain ⟨vs, us, h1, h2, h3, h4⟩ := h
  exact ⟨vs, us, h1.setNow x, h2.setW _ _, h3, h4⟩
theorem Wl.setSeq (h : Wl F W A M n T t idf now f seq rows w) (x : Nat) : Wl F W A M n T t idf now f x rows (w.setCell ⟨W, 2, none⟩ (.int .i64 (x : Int))) := by
  obtain ⟨vs, us, h1, h2, h3, h4⟩ := h
  exact ⟨vs, us, h1.setSeq x, h2.setW _ _, h3, h4⟩
/-- a row is taken out: its block is the wheel's no more -/
theorem Rr.drop {vs : Nat → Value} (h : Rr F W n T t idf rows vs w) (j : Nat) (hj : j < 257) : Rr (fun b => F b ∧ (vs j).ownBlock ≠ some b) W n T t idf (upd rows j []) (upd vs j (.slice none 0 0)) w := by
  have h0 := h.nil j
  refine ⟨h0.ow, h0.tm, ⟨h.FW, fun q => (h.dv j hj _ q).2.1 rfl⟩, fun b hb => h.Fl b hb.1, fun k hk b hb => ?_, h0.dd, fun i hi => ⟨⟨(h.dT i hi).1, fun q => (h.dv j hj _ q).2.2 i hi rfl⟩, (h.dT i hi).2⟩, h.dI⟩
  have h1 := h0.dv k hk b hb
  by_cases e : k = j
  · subst e; rw [upd_same] at hb; simp [Value.ownBlock] at hb
  · rw [upd_ne _ _ e] at hb
    exact ⟨⟨h1.1, fun q => e (h.dd k j b hk hj hb q)⟩, h1.2⟩
end
theorem usok_set {us : Nat → Nat} {rows : Nat → List Nat} (h : UsOk us rows) {L s : Nat} (hL : L < 4) (hs : s < 64) (i : Nat) : UsOk (upd us L (us L ||| 2 ^ s)) (upd rows (64 * L + s) (rows (64 * L + s) ++ [i])) := by
  intro L' hL'
  by_cases e : L' = L
  · subst e
    rw [upd_same]
    refine ⟨Nat.or_lt_two_pow (h L' hL).1 (Nat.pow_lt_pow_right (by omega) hs), fun s' hs' => ?_⟩
    rw [Nat.testBit_or, Nat.testBit_two_pow]
    by_cases e2 : s' = s
    · subst e2
      rw [upd_same]
      simp
    · rw [upd_ne _ _ (by omega), ← (h L' hL).2 s' hs']
      have : ¬ s = s' := fun q => e2 q.symm
      simp [this]
  · rw [upd_ne _ _ e]
    refine ⟨(h L' hL').1, fun s' hs' => ?_⟩
    rw [upd_ne _ _ (by omega)]
    exact (h L' hL').2 s' hs'
theorem usok_far {us : Nat → Nat} {rows : Nat → List Nat} (h : UsOk us rows) (l : List Nat) : UsOk us (upd rows 256 l) := by
  intro L hL
  refine ⟨(h L hL).1, fun s hs => ?_⟩
  rw [upd_ne _ _ (by omega)]
  exact (h L hL).2 s hs
theorem usok_clr {us : Nat → Nat} {rows : Nat → List Nat} (h : UsOk us rows) {L s c : Nat} (hL : L < 4) (hs : s < 64) (hc : c < 2 ^ 64) (hb : ∀ i, c.testBit i = ((us L).testBit i && !(2 ^ s).testBit i)) : UsOk (upd us L c) (upd rows (64 * L + s) []) := by
  intro L' hL'
  by_cases e : L' = L
  · subst e
    rw [upd_same]
    refine ⟨hc, fun s' hs' => ?_⟩
    rw [hb, Nat.testBit_two_pow]
    by_cases e2 : s' = s
    · subst e2
      rw [upd_same]
      simp
    · rw [upd_ne _ _ (by omega), ← (h L' hL).2 s' hs']
      have : ¬ s = s' := fun q => e2 q.symm
      simp [this]
  · rw [upd_ne _ _ e]
    refine ⟨(h L' hL').1, fun s' hs' => ?_⟩
    rw [upd_ne _ _ (by omega)]
    exact (h L' hL').2 s' hs'
theorem ix_0 (a : Nat) (w : World) (ha : a < 1099511627776) : Calls Tryd.prog 30 #[.int .i64 (a : Int), .int .i64 0] w fun e w' => e = .returned (.int .i64 ((a % 64 : Nat) : Int)) ∧ w = w' := by
  have h1 := i64_and63 (a : Int)
  have e : ((a % 64 : Nat) : Int) = (a : Int) % 64 := by omega
  have HE := Lib.hid e
  have y : (a : Int) < 1099511627776 := by omega
  clear e ha
  go_enter Tryd.func30, Tryd.ntmps30
  go_wp2_with fail
  go_ret
  exact ⟨ret_int HE.out.symm, rfl⟩
theorem ix_1 (a : Nat) (w : World) (ha : a < 1099511627776) : Calls Tryd.prog 30 #[.int .i64 (a : Int), .int .i64 1] w fun e w' => e = .returned (.int .i64 ((a / 64 % 64 : Nat) : Int)) ∧ w = w' := by
  have h1 := i64_and63 ((a : Int) / 64)
  have e : ((a / 64 % 64 : Nat) : Int) = (a : Int) / 64 % 64 := by omega
  have HE := Lib.hid e
  have y : (a : Int) < 1099511627776 := by omega
  clear e ha
  go_enter Tryd.func30, Tryd.ntmps30
  go_wp2_with fail
  go_ret
  exact ⟨ret_int HE.out.symm, rfl⟩
theorem ix_2 (a : Nat) (w : World) (ha : a < 1099511627776) : Calls Tryd.prog 30 #[.int .i64 (a : Int), .int .i64 2] w fun e w' => e = .returned (.int .i64 ((a / 4096 % 64 : Nat) : Int)) ∧ w = w' := by
  have h1 := i64_and63 ((a : Int) / 4096)
  have e : ((a / 4096 % 64 : Nat) : Int) = (a : Int) / 4096 % 64 := by omega
  have HE := Lib.hid e
  have y : (a : Int) < 1099511627776 := by omega
  clear e ha
  go_enter Tryd.func30, Tryd.ntmps30
  go_wp2_with fail
  go_ret
  exact ⟨ret_int HE.out.symm, rfl⟩
theorem ix_3 (a : Nat) (w : World) (ha : a < 1099511627776) : Calls Tryd.prog 30 #[.int .i64 (a : Int), .int .i64 3] w fun e w' => e = .returned (.int .i64 ((a / 262144 % 64 : Nat) : Int)) ∧ w = w' := by
  have h1 := i64_and63 ((a : Int) / 262144)
  have e : ((a / 262144 % 64 : Nat) : Int) = (a : Int) / 262144 % 64 := by omega
  have HE := Lib.hid e
  have y : (a : Int) < 1099511627776 := by omega
  clear e ha
  go_enter Tryd.func30, Tryd.ntmps30
  go_wp2_with fail
  go_ret
  exact ⟨ret_int HE.out.symm, rfl⟩
end Go.Proofs.YtnmgcjkffeeapaaDoor
