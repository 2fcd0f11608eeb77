/- The law TopTimers, for the row. -/
import Derived.Test.YtnmgcjkffeeapaaDoorLwD
namespace Go.Proofs.YtnmgcjkffeeapaaDoor
open Go.RowKit
theorem timers_walk (a0 : Int) (a1 : Option Addr) (len1 cap1 : Nat) (zs1 : List Int) (a2 : Option Addr) (len2 cap2 : Nat) (zs2 : List Int) (w : World) (w0 : (Lit.int .u32 a0).wf = true) (h1 : IsRow .u32 w a1 len1 cap1 zs1) (h2 : IsRow .u32 w a2 len2 cap2 zs2) (hT : Tab w) :
    Calls Tryd.prog 3 #[.int .u32 a0, .slice a1 len1 cap1, .slice a2 len2 cap2] w fun e w' => e = .returned (.bool true) ∧ Q w w' := by
  by_cases hb : 60 < len1 ∨ 10 < len2
  · exact law_big a0 a1 a2 len1 cap1 len2 cap2 w hT hb
  · obtain ⟨b1, b2⟩ := bd32 w0
    obtain ⟨now, rfl⟩ : ∃ n : Nat, a0 = (n : Int) := ⟨a0.toNat, by omega⟩
    exact law_small now (by omega) a1 a2 len1 cap1 len2 cap2 _ _ (fun i => now + 1 + (zs1.getD i 0).toNat) (fun _ => rfl) w hT h1.row h2.row (by omega) (by omega)
end Go.Proofs.YtnmgcjkffeeapaaDoor
