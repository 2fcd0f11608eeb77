/- The walk of the law CivilOne. -/
import Derived.Test.YtdhlgmclogdplaaDoorTxtN
import Derived.Test.YtdhlgmclogdplaaDoorTxtO
import Derived.Lib.ConvBytes
import Derived.Laws.BitsAllLaws
namespace Go.Proofs.YtdhlgmclogdplaaDoor
open Go.RowKit
set_option linter.unusedVariables false
set_option linter.unusedSimpArgs false
/-- a block that begins with these bytes -/
def Row8 (B : Nat) (l : List Int) (w : World) : Prop := B < w.heap.size ∧ ∀ i, i < l.length → w.cell? ⟨B, i, none⟩ = some (.int .u8 (l.getD i 0))
theorem Row8.later {B : Nat} {l : List Int} {w w' : World} (h : Row8 B l w) (q : Q w w') : Row8 B l w' :=
  ⟨Nat.lt_of_lt_of_le h.1 q.size, fun i hi => (q.cell (p := ⟨B, i, none⟩) h.1).trans (h.2 i hi)⟩
theorem Row8.cell {B : Nat} {l : List Int} {w : World} (h : Row8 B l w) (i : Nat) (hi : i < l.length) : w.cell? ⟨B, i, none⟩ = some (.int .u8 (l.getD i 0)) := h.2 i hi
/-- a text's bytes, as numbers -/
def gbl (S : ByteArray) : List Int := (List.range 19).map (gb S)
theorem gbl_len (S : ByteArray) : (gbl S).length = 19 := by simp [gbl]
theorem gbl_get (S : ByteArray) (i : Nat) (h : i < 19) : (gbl S).getD i 0 = gb S i := by simp [gbl, List.getD, h]
theorem conv_out (w : World) (S : ByteArray) (hS : S.size = 19) : ∃ (w3 : World) (C : Nat), (convert 9 40 (.string S)).run Tryd.prog w = .ok (.slice (some ⟨w.heap.size, 0, none⟩) 19 C) w3 ∧ Q w w3 ∧ Row8 w.heap.size (gbl S) w3 ∧ ∀ j, j < 19 → w3.frozen? ⟨w.heap.size, j, none⟩ = false := by
  have h := Lib.run_convert_string_bytes (P := Tryd.prog) w 9 40 5 S Tryd.underlying9 Tryd.underlying40 Tryd.underlying5
  rw [hS] at h
  refine ⟨_, _, h, ⟨rfl, rfl, rfl, ?_, fun j hj => ?_⟩, ⟨?_, fun i hi => ?_⟩, fun j hj => ?_⟩
  · rw [Lib.bytesWorld_size]; omega
  · exact Lib.bytesWorld_at_old w 5 S j hj
  · rw [Lib.bytesWorld_size]; omega
  · rw [gbl_len] at hi
    rw [Lib.bytesWorld_cell w 5 S i (by omega), gbl_get S i hi]
    congr 2
    unfold gb
    rw [dif_pos (by omega)]
    have : i < S.data.toList.length := by
      have : S.data.size = 19 := hS
      simpa [this] using hi
    have hd : i < S.data.size := by simpa using this
    simp [List.getD, this]
    rw [Array.getElem?_eq_getElem hd]
    rfl
  · have hsz : 19 ≤ (Lib.bytesCells w 5 S).size := by
      have : S.data.size = 19 := hS
      simp [Lib.bytesCells, this]
    simp [World.frozen?, Lib.bytesWorld_at_new]
    omega
theorem conv_back (w : World) (B C : Nat) (l : List Int) (hl : l.length = 19) (r : Row8 B l w) : (convert 40 9 (.slice (some ⟨B, 0, none⟩) 19 C)).run Tryd.prog w = .ok (.string (strOfNums l)) w :=
  run_convert_bytes_arg (P := Tryd.prog) w 40 5 Tryd.underlying40 Tryd.underlying5 B 0 19 C l hl (fun i hi => by
    have := r.2 i (by omega)
    simpa using this) 9 Tryd.underlying9
theorem row8_set {B k : Nat} {l : List Int} {w : World} {G : Int} (r : Row8 B l w) (hl : l.length = 19) (hk : k < 19) : Row8 B (l.set k G) (w.setCell ⟨B, k, none⟩ (.int .u8 G)) := by
  refine ⟨by rw [World.size_setCell]; exact r.1, fun i hi => ?_⟩
  rw [List.length_set, hl] at hi
  by_cases e : i = k
  · subst e
    rw [World.cell?_setCell_same _ _ _ (r.2 i (by omega))]
    simp [List.getD, hl, hi]
  · rw [World.cell?_setCell_other _ _ _ _ (by simp; try omega), r.2 i (by omega)]
    simp [List.getD, List.getElem?_set, Ne.symm e]
theorem xor_ne (a b : Nat) (h : b ≠ 0) : a ^^^ b ≠ a := by
  intro e
  have h1 : a ^^^ (a ^^^ b) = b := by rw [← Nat.xor_assoc, Nat.xor_self, Nat.zero_xor]
  rw [e, Nat.xor_self] at h1
  exact h h1.symm
theorem gbl_byt (S : ByteArray) : Cal.Byt (gbl S) := by
  intro x hx
  simp only [gbl, List.mem_map] at hx
  obtain ⟨i, _, rfl⟩ := hx
  exact gb_bd S i
theorem set_ne {S : ByteArray} {k : Nat} {G : Int} (hk : k < 19) (hG : 0 ≤ G ∧ G < 256) (hne : G ≠ gb S k) : strOfNums ((gbl S).set k G) ≠ S := by
  intro e
  have hb : Cal.Byt ((gbl S).set k G) := by
    intro x hx
    rcases List.mem_or_eq_of_mem_set hx with h | h
    · exact gbl_byt S x h
    · rw [h]; exact hG
  have h1 := gb_nums _ hb k (by simp [gbl_len, hk])
  rw [e] at h1
  apply hne
  rw [h1]
  simp [List.getD, gbl_len, hk]
theorem pE_vals (S : ByteArray) : pE S = 0 ∨ (pV S = 0 ∧ (pE S = 10 ∨ pE S = 2)) := by
  unfold pE pV
  split
  · unfold Cal.timeE Cal.timeV
    split
    · exact Or.inl rfl
    · exact Or.inr ⟨rfl, Or.inr rfl⟩
  · exact Or.inr ⟨rfl, Or.inl rfl⟩
set_option maxHeartbeats 2000000 in
theorem one_core (t K B u E E2 : Int) (k : Nat) (S S' X : ByteArray) (g G : Int)
    (k1 : ∀ w2, Tab w2 → Calls Tryd.prog 22 #[.int .i64 t] w2 fun e w' => e = .returned (.tuple #[.string S, .int .i64 0]) ∧ Q w2 w')
    (k2 : ∀ w2, Calls Tryd.prog 24 #[.string S'] w2 fun e w' => e = .returned (.tuple #[.int .i64 u, .int .i64 E]) ∧ Q w2 w')
    (k3 : ∀ w2, Tab w2 → Calls Tryd.prog 22 #[.int .i64 u] w2 fun e w' => e = .returned (.tuple #[.string X, .int .i64 E2]) ∧ Q w2 w')
    (hS : S.size = 19) (hk : k < 19) (hK : 0 ≤ K ∧ K ≤ 255) (hKk : K % 19 = (k : Int)) (hB : 1 ≤ B ∧ B ≤ 255) (hg : gb S k = g) (hx : bits .xor .u8 g B = G) (hS' : strOfNums ((gbl S).set k G) = S')
    (hc : (E = 0 ∧ E2 = 0 ∧ u ≠ t ∧ X = S') ∨ (u = 0 ∧ (E = 10 ∨ E = 2))) (w : World) (hT : Tab w) :
    Calls Tryd.prog 9 #[.int .i64 t, .int .u8 K, .int .u8 B] w fun e w' => e = .returned (.bool true) ∧ Q w w' := by
  have hB0 : (B == 0) = false := beq_f (by omega)
  have hgl := gbl_len S
  have hsl : ((gbl S).set k G).length = 19 := by rw [List.length_set, hgl]
  have hgg : (gbl S).getD k 0 = g := by rw [gbl_get S k hk, hg]
  have HS := Lib.hid hS; have HS' := Lib.hid hS'; have HL := Lib.hid hgl; have HM := Lib.hid hsl; have HG := Lib.hid hgg
  clear hS hS' hgl hsl hgg hg
  have h10 : (0 : Int) ≤ (k : Int) ∧ (k : Int) < 19 := by omega
  rcases hc with ⟨rfl, rfl, hut, rfl⟩ | ⟨rfl, rfl | rfl⟩
  all_goals
    try (have y1 : (u != t) = true := bne_t hut
         clear hut)
    go_enter Tryd.func9, Tryd.ntmps9
    go_wp2_with (first
      | (go_at_call 22; with_reducible refine (k1 _ (Tab.later hT (by repeat (first | exact Q.refl _ | assumption | refine Q.alloc ?_ _ | refine Q.drew ?_ | refine Q.drewN ?_ _ | refine Q.setCell ?_ (Q.size (by assumption)) _ | refine Q.trans ?_ (by assumption))))).mono ?_; rintro e w1 ⟨rfl, hq1⟩; obtain ⟨w3, C, hcv, hq3, r3, z3⟩ := conv_out w1 S HS.out; have c3 := r3.cell k (by rw [HL.out]; exact hk); rw [HG.out] at c3; have f3 := z3 k hk; have r4 := row8_set (G := G) r3 HL.out hk; have b4 := conv_back _ _ C _ HM.out r4; rw [HS'.out] at b4; clear z3)
      | (go_at_call 24; with_reducible refine (k2 _).mono ?_; rintro e w5 ⟨rfl, hq5⟩; have r5 := r4.later hq5)
      | (go_at_call 22; with_reducible refine (k3 _ (Tab.later hT (by repeat (first | exact Q.refl _ | assumption | refine Q.alloc ?_ _ | refine Q.drew ?_ | refine Q.drewN ?_ _ | refine Q.setCell ?_ (Q.size (by assumption)) _ | refine Q.trans ?_ (by assumption))))).mono ?_; rintro e w6 ⟨rfl, hq6⟩; have b6 := conv_back _ _ C _ HM.out (r5.later hq6); rw [HS'.out] at b6)
      | (go_at_call 17; refine (works_any _ (Tab.later hT (by repeat (first | exact Q.refl _ | assumption | refine Q.alloc ?_ _ | refine Q.drew ?_ | refine Q.drewN ?_ _ | refine Q.setCell ?_ (Q.size (by assumption)) _ | refine Q.trans ?_ (by assumption))))).mono ?_; rintro e w9 ⟨rfl, hq9⟩))
    go_ret
    exact ⟨rfl, by repeat (first | exact Q.refl _ | assumption | refine Q.alloc ?_ _ | refine Q.drew ?_ | refine Q.drewN ?_ _ | refine Q.setCell ?_ (Q.size (by assumption)) _ | refine Q.trans ?_ (by assumption))⟩
theorem civilOne_walk (t K B : Int) (w0 : (Lit.int .i64 t).wf = true) (w1 : (Lit.int .u8 K).wf = true) (w2 : (Lit.int .u8 B).wf = true) (w : World) (hT : Tab w) :
    Calls Tryd.prog 9 #[.int .i64 t, .int .u8 K, .int .u8 B] w fun e w' => e = .returned (.bool true) ∧ Q w w' := by
  have hK : 0 ≤ K ∧ K ≤ 255 := by
    have hmin : IntKind.u8.min = 0 := rfl
    have hmax : IntKind.u8.max = 255 := rfl
    simp only [Lit.wf, Bool.and_eq_true, decide_eq_true_eq] at w1; omega
  have hB : 0 ≤ B ∧ B ≤ 255 := by
    have hmin : IntKind.u8.min = 0 := rfl
    have hmax : IntKind.u8.max = 255 := rfl
    simp only [Lit.wf, Bool.and_eq_true, decide_eq_true_eq] at w2; omega
  clear w0 w1 w2
  by_cases h : Cal.timeOk t
  · have k1 := fun w2 (ht : Tab w2) => text_any t w2 ht
    rw [ofE_good t h] at k1
    by_cases hb : B = 0
    · have hB0 : (B == 0) = true := beq_t hb
      obtain ⟨S, hS⟩ : ∃ x, tx t = x := ⟨_, rfl⟩
      rw [hS] at k1
      clear hb hS h
      go_enter Tryd.func9, Tryd.ntmps9
      go_wp2_with (first
        | (go_at_call 22; with_reducible refine (k1 _ (Tab.later hT (by repeat (first | exact Q.refl _ | assumption | refine Q.alloc ?_ _ | refine Q.drew ?_ | refine Q.drewN ?_ _ | refine Q.setCell ?_ (Q.size (by assumption)) _ | refine Q.trans ?_ (by assumption))))).mono ?_; rintro e w1 ⟨rfl, hq1⟩)
        | (go_at_call 17; refine (works_any _ (Tab.later hT (by repeat (first | exact Q.refl _ | assumption | refine Q.alloc ?_ _ | refine Q.drew ?_ | refine Q.drewN ?_ _ | refine Q.setCell ?_ (Q.size (by assumption)) _ | refine Q.trans ?_ (by assumption))))).mono ?_; rintro e w9 ⟨rfl, hq9⟩))
      go_ret
      exact ⟨rfl, by repeat (first | exact Q.refl _ | assumption | refine Q.alloc ?_ _ | refine Q.drew ?_ | refine Q.drewN ?_ _ | refine Q.setCell ?_ (Q.size (by assumption)) _ | refine Q.trans ?_ (by assumption))⟩
    · obtain ⟨k, hk⟩ : ∃ k : Nat, K % 19 = (k : Int) := ⟨(K % 19).toNat, by omega⟩
      have hgb := gb_bd (tx t) k
      have hx : bits .xor .u8 (gb (tx t) k) B = (((gb (tx t) k).toNat ^^^ B.toNat : Nat) : Int) := u8_xor _ _ hgb.1 hgb.2 hB.1 (by omega)
      have hl : (gb (tx t) k).toNat ^^^ B.toNat < 2 ^ 8 := Nat.xor_lt_two_pow (by omega) (by omega)
      have hn := xor_ne (gb (tx t) k).toNat B.toNat (by omega)
      have hne : strOfNums ((gbl (tx t)).set k (((gb (tx t) k).toNat ^^^ B.toNat : Nat) : Int)) ≠ tx t := set_ne (by omega) (by omega) (by omega)
      have hsz : (strOfNums ((gbl (tx t)).set k (((gb (tx t) k).toNat ^^^ B.toNat : Nat) : Int))).size < 9223372036854775808 := by
        rw [strOfNums_size, List.length_set, gbl_len]; omega
      have k2 := fun w2 => parse_any _ hsz w2
      obtain ⟨S', hS'⟩ : ∃ x, strOfNums ((gbl (tx t)).set k (((gb (tx t) k).toNat ^^^ B.toNat : Nat) : Int)) = x := ⟨_, rfl⟩
      rw [hS'] at k2 hne
      refine one_core t K B (pV S') (pE S') (Cal.ofE (pV S')) k (tx t) S' (tx (pV S')) _ _ k1 k2 (fun w2 ht => text_any _ w2 ht) (tx_size h) (by omega) hK hk (by omega) rfl hx hS' ?_ w hT
      rcases pE_vals S' with hz | ⟨hz, hz2⟩
      · obtain ⟨g1, g2⟩ := text_parse hz
        refine Or.inl ⟨hz, ofE_good _ g1, fun e => hne ?_, g2⟩
        rw [← g2, e]
      · exact Or.inr ⟨hz, hz2⟩
  · have k1 := fun w2 => text_bad t h w2
    clear h
    go_enter Tryd.func9, Tryd.ntmps9
    go_wp2_with (first
      | (go_at_call 22; with_reducible refine (k1 _).mono ?_; rintro e w1 ⟨rfl, hq1⟩)
      | (go_at_call 17; refine (works_any _ (Tab.later hT (by repeat (first | exact Q.refl _ | assumption | refine Q.alloc ?_ _ | refine Q.drew ?_ | refine Q.drewN ?_ _ | refine Q.setCell ?_ (Q.size (by assumption)) _ | refine Q.trans ?_ (by assumption))))).mono ?_; rintro e w9 ⟨rfl, hq9⟩))
    go_ret
    exact ⟨rfl, by repeat (first | exact Q.refl _ | assumption | refine Q.alloc ?_ _ | refine Q.drew ?_ | refine Q.drewN ?_ _ | refine Q.setCell ?_ (Q.size (by assumption)) _ | refine Q.trans ?_ (by assumption))⟩
end Go.Proofs.YtdhlgmclogdplaaDoor
