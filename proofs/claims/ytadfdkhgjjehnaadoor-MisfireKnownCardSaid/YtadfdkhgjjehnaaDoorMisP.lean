/- Which texts are those of policies: plain facts. -/
import Derived.Test.YtadfdkhgjjehnaaDoorMisJ
import Derived.Lib.AtoiAll
namespace Go.Proofs.YtadfdkhgjjehnaaDoor
open Go.RowKit
set_option linter.unusedVariables false
set_option linter.unusedSimpArgs false
def atoiIs (l : List UInt8) (v : Int) : Bool := match Lib.atoiAll l with
  | .ok u => u == v
  | _ => false
theorem atoi_dk_all : ∀ k : Fin 101, 1 ≤ k.val → atoiIs (strOfNums (dgs (k.val : Int) (nz (k.val : Int)))).data.toList (k.val : Int) = true := by decide +kernel
/-- the digits of a number are read as the number -/
theorem atoi_dk {k : Int} (h : 1 ≤ k ∧ k ≤ 100) : Lib.atoiAll (strOfNums (dgs k (nz k))).data.toList = .ok k := by
  obtain ⟨n, rfl⟩ := Int.eq_ofNat_of_zero_le (show 0 ≤ k by omega)
  have := atoi_dk_all ⟨n, by omega⟩ (by show 1 ≤ n; omega)
  simp only [atoiIs] at this
  split at this
  · rename_i u hu
    rw [hu, beq_iff_eq.1 this]
  · cases this
theorem dk_inj {k m : Int} (hk : 1 ≤ k ∧ k ≤ 100) (hm : 1 ≤ m ∧ m ≤ 100) (h : strOfNums (dgs k (nz k)) = strOfNums (dgs m (nz m))) : k = m := by
  have a := atoi_dk hk
  rw [h, atoi_dk hm] at a
  injection a with a
  exact a.symm
/-- a text is that of a policy -/
def Is (s : ByteArray) (p k : Int) : Prop := Mf.chkE p k = 0 ∧ s = mt p k
theorem is_cases {s : ByteArray} {p k : Int} (h : Is s p k) : (p = 0 ∧ k = 0 ∧ s = ⟨#[100, 114, 111, 112]⟩) ∨ (p = 1 ∧ k = 0 ∧ s = ⟨#[108, 97, 115, 116]⟩) ∨ (p = 2 ∧ k = 0 ∧ s = ⟨#[97, 108, 108]⟩) ∨ (p = 3 ∧ (1 ≤ k ∧ k ≤ 100) ∧ s = ⟨#[115, 111, 109, 101, 58]⟩ ++ strOfNums (dgs k (nz k))) := by
  obtain ⟨h1, h2⟩ := h
  rcases chk_cases h1 with ⟨rfl, rfl⟩ | ⟨rfl, rfl⟩ | ⟨rfl, rfl⟩ | ⟨rfl, h3⟩
  · exact Or.inl ⟨rfl, rfl, h2⟩
  · exact Or.inr (Or.inl ⟨rfl, rfl, h2⟩)
  · exact Or.inr (Or.inr (Or.inl ⟨rfl, rfl, h2⟩))
  · exact Or.inr (Or.inr (Or.inr ⟨rfl, h3, h2⟩))
theorem some_size (n : ByteArray) : ((⟨#[115, 111, 109, 101, 58]⟩ : ByteArray) ++ n).size = 5 + n.size := by
  rw [ByteArray.size_append]; rfl
theorem app_inj {a b c : ByteArray} (h : a ++ b = a ++ c) : b = c := by
  have := congrArg (fun x : ByteArray => x.data.toList) h
  simp at this
  apply ByteArray.ext
  exact this
/-- which policy, by the length and the first byte -/
def kd (s : ByteArray) : Int := if 5 ≤ s.size then 3 else if s.size = 3 then 2 else if s = ⟨#[100, 114, 111, 112]⟩ then 0 else 1
theorem is_kd {s : ByteArray} {p k : Int} (h : Is s p k) : p = kd s := by
  rcases is_cases h with ⟨rfl, rfl, rfl⟩ | ⟨rfl, rfl, rfl⟩ | ⟨rfl, rfl, rfl⟩ | ⟨rfl, b, rfl⟩
  · decide
  · decide
  · decide
  · unfold kd
    rw [if_pos (by rw [some_size]; omega)]
theorem is_keep {s : ByteArray} {p k : Int} (h : Is s p k) : (p ≠ 3 ∧ k = 0) ∨ (p = 3 ∧ (1 ≤ k ∧ k ≤ 100) ∧ s = ⟨#[115, 111, 109, 101, 58]⟩ ++ strOfNums (dgs k (nz k))) := by
  rcases is_cases h with ⟨rfl, rfl, _⟩ | ⟨rfl, rfl, _⟩ | ⟨rfl, rfl, _⟩ | b
  · exact Or.inl ⟨by decide, rfl⟩
  · exact Or.inl ⟨by decide, rfl⟩
  · exact Or.inl ⟨by decide, rfl⟩
  · exact Or.inr b
/-- a text is that of one policy -/
theorem is_one {s : ByteArray} {p k q m : Int} (h : Is s p k) (g : Is s q m) : p = q ∧ k = m := by
  have e : p = q := (is_kd h).trans (is_kd g).symm
  subst e
  refine ⟨rfl, ?_⟩
  rcases is_keep h with ⟨a, b⟩ | ⟨a, b, c⟩ <;> rcases is_keep g with ⟨a2, b2⟩ | ⟨a2, b2, c2⟩
  · rw [b, b2]
  · exact absurd a2 a
  · exact absurd a a2
  · rw [c] at c2
    exact dk_inj b b2 (app_inj c2)
/-- what a text is read as -/
def Prs (s : ByteArray) (p k e : Int) : Prop := (e = 0 ∧ Is s p k) ∨ (e = 10 ∧ p = 0 ∧ k = 0 ∧ ∀ q m, ¬ Is s q m)
theorem prs_one {s : ByteArray} {p k e q m f : Int} (h : Prs s p k e) (g : Prs s q m f) : p = q ∧ k = m ∧ e = f := by
  rcases h with ⟨rfl, h⟩ | ⟨rfl, rfl, rfl, h⟩ <;> rcases g with ⟨rfl, g⟩ | ⟨rfl, rfl, rfl, g⟩
  · obtain ⟨a, b⟩ := is_one h g; exact ⟨a, b, rfl⟩
  · exact absurd h (g _ _)
  · exact absurd g (h _ _)
  · exact ⟨rfl, rfl, rfl⟩
end Go.Proofs.YtadfdkhgjjehnaaDoor
