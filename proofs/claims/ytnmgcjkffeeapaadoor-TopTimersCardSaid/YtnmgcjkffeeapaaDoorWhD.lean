/- The contract of the wheel's empty. -/
import Derived.Test.YtnmgcjkffeeapaaDoorWhB
import Derived.BigRegion
namespace Go.Proofs.YtnmgcjkffeeapaaDoor
open Go.RowKit
set_option linter.unusedVariables false
set_option linter.unusedSimpArgs false
/-- a row has been taken out; its slice is v -/
def Emptied (F : Nat → Prop) (W A M n : Nat) (T t : Nat → Nat) (idf : Nat → Int) (now f seq : Nat) (rows : Nat → List Nat) (j : Nat) (w : World) (v : Value) (w' : World) : Prop :=
  ∃ F', Wl F' W A M n T t idf now f seq (upd rows j []) w' ∧ w'.ownsRow 0 61 1 v (rows j).length ((rows j).map fun i => Value.pointer (some ⟨T i, 0, none⟩)) ∧ (∀ g, v.ownBlock = some g → F g ∧ ¬ F' g) ∧ (∀ b, F' b → F b) ∧ Fp F w w'
theorem mem_nil {rows : Nat → List Nat} {n : Nat} (h : ∀ j i, i ∈ rows j → i < n) (j : Nat) : ∀ k x, x ∈ upd rows j [] k → x < n := by
  intro k x hx
  by_cases e : k = j
  · subst e; rw [upd_same] at hx; cases hx
  · rw [upd_ne _ _ e] at hx; exact h k x hx
set_option maxRecDepth 100000 in
set_option maxHeartbeats 4000000 in
theorem empty_ok {F : Nat → Prop} {W A M n now f seq : Nat} {T t : Nat → Nat} {idf : Nat → Int} {rows : Nat → List Nat} {w : World} (h : Wl F W A M n T t idf now f seq rows w) (L s : Nat) (hL : L < 4) (hs : s < 64) :
    Calls Tryd.prog 24 #[.pointer (some ⟨W, 0, none⟩), .int .i64 (L : Int), .int .i64 (s : Int)] w fun e w' => ∃ v, e = .returned v ∧ Emptied F W A M n T t idf now f seq rows (64 * L + s) w v w' := by
  obtain ⟨vs, us, h1, h2, h3, h4⟩ := h
  have H1 := Lib.hid h1
  have H2 := Lib.hid h2
  have H3 := Lib.hid h3
  have H4 := Lib.hid h4
  obtain ⟨j, hj⟩ : ∃ j, 64 * L + s = j := ⟨_, rfl⟩
  have hj2 : j < 257 := by omega
  have HJ : Hid (off j = 5 + L * 64 + s) := Lib.hid (by unfold off; rw [if_neg (by omega)]; omega)
  have cr := h1.cr j hj2
  have zr := h1.fr (off j) (off_lt hj2).1
  rw [HJ.out] at cr zr
  obtain ⟨v, hv⟩ : ∃ v, vs j = v := ⟨_, rfl⟩
  rw [hv] at cr
  have cu := h1.cu L hL
  have zu := h1.fr (261 + L) (by omega)
  obtain ⟨u, hu⟩ : ∃ u, us L = u := ⟨_, rfl⟩
  have hu64 := (h3 L hL).1
  rw [hu] at cu hu64
  have hp64 : 2 ^ s < 2 ^ 64 := Nat.pow_lt_pow_right (by omega) hs
  obtain ⟨c, e1, e2, e3⟩ := bu_clear hu64 hp64
  have w1 : bits .andNot .u64 (u : Int) ((2 : Int) ^ s) = (c : Int) := by simpa using e1
  have w2 : IntKind.u64.wrap ((2 : Int) ^ s) = (2 : Int) ^ s := by
    have := u64_wrap hp64
    simpa using this
  have HE : Hid (bits .andNot .u64 (u : Int) (IntKind.u64.wrap ((2 : Int) ^ s)) = (c : Int)) := Lib.hid (by rw [w2]; exact w1)
  clear w1 w2
  have E2 := Lib.hid e2
  have E3 := Lib.hid e3
  have HV := Lib.hid hv
  have HU := Lib.hid hu
  have HJJ := Lib.hid hj
  have HLs := Lib.hid (And.intro hL hs)
  have y1 : (0 : Int) ≤ (L : Int) ∧ (L : Int) < 4 := by omega
  have y2 : (0 : Int) ≤ (s : Int) ∧ (s : Int) < 64 := by omega
  have n1 : 261 + L ≠ 5 + L * 64 + s := by omega
  clear h1 h2 h3 h4 e1 e2 e3 hu64 hp64 hv hu hL hs
  rw [hj]
  clear hj
  go_enter Tryd.func24, Tryd.ntmps24
  go_wp2_with fail
  go_region
  go_wp2_with fail
  go_ret
  have hd := H2.out.drop j hj2
  have hf : Fp (fun b => b = W) w ((w.setCell ⟨W, 5 + L * 64 + s, none⟩ (.slice none 0 0)).setCell ⟨W, 261 + L, none⟩ (.int .u64 (c : Int))).drew := (Fp.ofFr (F := fun b => b = W) (((Fr.refl W w).setCell _ _).setCell _ _) rfl).trans (Fp.ofQ (Q.refl _).drew)
  have b1 := H1.out.setRow j hj2 (.slice none 0 0)
  rw [HJ.out] at b1
  have b2 := b1.setUsed L HLs.out.1 c
  have b3 := usok_clr H3.out HLs.out.1 HLs.out.2 E2.out (by rw [HU.out]; exact E3.out)
  rw [HJJ.out] at b3
  refine ⟨v, rfl, (fun b => F b ∧ (vs j).ownBlock ≠ some b), by rw [HE.out]; exact Wl.q ⟨_, _, b2, (hd.setW _ _).setW _ _, b3, mem_nil H4.out j⟩ (Q.refl _).drew, ?_, fun g hg => ⟨(H2.out.dv j hj2 g (by rw [HV.out]; exact hg)).1, fun q => q.2 (by rw [HV.out]; exact hg)⟩, fun b hb => hb.1, ?_⟩
  · have := H2.out.ow j hj2
    rw [HV.out] at this
    rw [HE.out]
    exact hf.owns this (fun g hg => (H2.out.dv j hj2 g (by rw [HV.out]; exact hg)).2.1)
  · rw [HE.out]
    exact hf.mono (fun x e => by rw [e]; exact H2.out.FW)
end Go.Proofs.YtnmgcjkffeeapaaDoor
