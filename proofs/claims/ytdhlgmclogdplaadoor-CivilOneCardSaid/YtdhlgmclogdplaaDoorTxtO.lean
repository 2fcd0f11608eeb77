/- Texts and what they are read as: plain facts. -/
import Derived.Test.YtdhlgmclogdplaaDoorTxtI
import Derived.Test.YtdhlgmclogdplaaDoorCivp
namespace Go.Proofs.YtdhlgmclogdplaaDoor
open Go.RowKit
set_option linter.unusedVariables false
set_option linter.unusedSimpArgs false
theorem txt_tl (y m d h i s : Int) : txt y m d h i s = strOfNums (Cal.tl y m d h i s) := rfl
theorem gb_nums (l : List Int) (hl : Cal.Byt l) (i : Nat) (hi : i < l.length) : gb (strOfNums l) i = l.getD i 0 := by
  have hx := hl l[i] (List.getElem_mem hi)
  have hs : i < (strOfNums l).size := by rw [strOfNums_size]; exact hi
  unfold gb
  rw [dif_pos hs]
  have e : (strOfNums l)[i] = UInt8.ofNat l[i].toNat := by
    show ((l.map fun n => UInt8.ofNat n.toNat).toArray)[i]'(by simpa using hi) = _
    simp
  rw [e]
  simp [List.getD, hi]
  omega
theorem ext_gb {S T : ByteArray} (hs : S.size = T.size) (h : ∀ i, i < S.size → gb S i = gb T i) : S = T := by
  apply ByteArray.ext
  apply Array.ext
  · exact hs
  · intro i h1 h2
    have h3 := h i h1
    unfold gb at h3
    rw [dif_pos (show i < S.size from h1), dif_pos (show i < T.size from h2)] at h3
    have h4 : (S[i]).toNat = (T[i]).toNat := by omega
    exact UInt8.toNat_inj.1 h4
theorem r19 {i : Nat} (h : i < 19) : i = 0 ∨ i = 1 ∨ i = 2 ∨ i = 3 ∨ i = 4 ∨ i = 5 ∨ i = 6 ∨ i = 7 ∨ i = 8 ∨ i = 9 ∨ i = 10 ∨ i = 11 ∨ i = 12 ∨ i = 13 ∨ i = 14 ∨ i = 15 ∨ i = 16 ∨ i = 17 ∨ i = 18 := by omega
/-- bounds under which a text stands for its numbers -/
def Bd (y m d h i s : Int) : Prop := (0 ≤ y ∧ y ≤ 9999) ∧ (0 ≤ m ∧ m ≤ 99) ∧ (0 ≤ d ∧ d ≤ 99) ∧ (0 ≤ h ∧ h ≤ 99) ∧ (0 ≤ i ∧ i ≤ 99) ∧ (0 ≤ s ∧ s ≤ 99)
theorem tl_byt2 {y m d h i s : Int} (b : Bd y m d h i s) : Cal.Byt (Cal.tl y m d h i s) := by
  unfold Bd at b
  intro x hx
  simp only [Cal.tl, List.mem_cons, List.not_mem_nil, or_false] at hx
  omega
theorem pt0 (S : ByteArray) : pt S 19 0 = ((gb S 0 - 48) * 10 + (gb S 1 - 48)) * 100 + (gb S 2 - 48) * 10 + (gb S 3 - 48) := by simp [pt, fb, kk]; omega
theorem txt_ok {y m d h i s : Int} (b : Bd y m d h i s) : pOk (txt y m d h i s) ∧ pt (txt y m d h i s) 19 0 = y ∧ pt (txt y m d h i s) 19 1 = m ∧ pt (txt y m d h i s) 19 2 = d ∧ pt (txt y m d h i s) 19 3 = h ∧ pt (txt y m d h i s) 19 4 = i ∧ pt (txt y m d h i s) 19 5 = s := by
  have hb := tl_byt2 b
  have hg : ∀ k, k < 19 → gb (txt y m d h i s) k = (Cal.tl y m d h i s).getD k 0 := fun k hk => by rw [txt_tl]; exact gb_nums _ hb k hk
  unfold Bd at b
  refine ⟨⟨rfl, fun j hj => ?_⟩, ?_, ?_, ?_, ?_, ?_, ?_⟩
  · unfold ok1
    rw [hg j hj]
    rcases r19 hj with rfl | rfl | rfl | rfl | rfl | rfl | rfl | rfl | rfl | rfl | rfl | rfl | rfl | rfl | rfl | rfl | rfl | rfl | rfl <;> simp [Cal.tl, fb] <;> omega
  · rw [pt0, hg 0 (by omega), hg 1 (by omega), hg 2 (by omega), hg 3 (by omega)]; simp [Cal.tl]; omega
  · rw [pt1, hg 5 (by omega), hg 6 (by omega)]; simp [Cal.tl]; omega
  · rw [pt2, hg 8 (by omega), hg 9 (by omega)]; simp [Cal.tl]; omega
  · rw [pt3, hg 11 (by omega), hg 12 (by omega)]; simp [Cal.tl]; omega
  · rw [pt4, hg 14 (by omega), hg 15 (by omega)]; simp [Cal.tl]; omega
  · rw [pt5, hg 17 (by omega), hg 18 (by omega)]; simp [Cal.tl]; omega
theorem good_bd {y m d h i s : Int} (g : Cal.Good y m d h i s) : Bd y m d h i s := by
  obtain ⟨⟨v1, v2, v3, v4, v5, v6⟩, g1⟩ := g
  have := Cal.dim_bd y m
  unfold Bd; omega
/-- what was written is read again -/
theorem parse_text {t : Int} (h : Cal.timeOk t) : pV (tx t) = t ∧ pE (tx t) = 0 := by
  have g := Cal.good_of h
  have k := txt_ok (good_bd g.1)
  have e : tx t = txt (Cal.cY t) (Cal.cM t) (Cal.cD t) (Cal.cH t) (Cal.cI t) (Cal.cS t) := if_pos h
  obtain ⟨k0, k1, k2, k3, k4, k5, k6⟩ := k
  unfold pV pE
  rw [e, if_pos k0, if_pos k0, k1, k2, k3, k4, k5, k6]
  unfold Cal.timeV Cal.timeE
  rw [if_pos g.1, if_pos g.1]
  exact ⟨g.2, rfl⟩
/-- a text that is read is the text of what was read -/
theorem text_parse {S : ByteArray} (h : pE S = 0) : Cal.timeOk (pV S) ∧ tx (pV S) = S := by
  unfold pE at h
  split at h
  case isFalse => omega
  case isTrue hp =>
    unfold Cal.timeE at h
    split at h
    case isFalse => omega
    case isTrue g =>
      have e : pV S = Cal.secs (pt S 19 0) (pt S 19 1) (pt S 19 2) (pt S 19 3) (pt S 19 4) (pt S 19 5) := by
        unfold pV Cal.timeV; rw [if_pos hp, if_pos g]
      have hr := (Cal.secs_range g).1
      obtain ⟨o1, o2, o3, o4, o5, o6⟩ := Cal.of_secs g
      rw [e]
      refine ⟨hr, ?_⟩
      unfold tx
      rw [if_pos hr, o1, o2, o3, o4, o5, o6, txt_tl]
      have hb := tl_byt2 (good_bd g)
      apply ext_gb
      · rw [strOfNums_size, hp.1]; rfl
      · intro k hk
        rw [strOfNums_size] at hk
        have hk : k < 19 := hk
        rw [gb_nums _ hb k hk]
        have q0 := hp.2 0 (by omega)
        have q1 := hp.2 1 (by omega)
        have q2 := hp.2 2 (by omega)
        have q3 := hp.2 3 (by omega)
        have q4 := hp.2 4 (by omega)
        have q5 := hp.2 5 (by omega)
        have q6 := hp.2 6 (by omega)
        have q7 := hp.2 7 (by omega)
        have q8 := hp.2 8 (by omega)
        have q9 := hp.2 9 (by omega)
        have q10 := hp.2 10 (by omega)
        have q11 := hp.2 11 (by omega)
        have q12 := hp.2 12 (by omega)
        have q13 := hp.2 13 (by omega)
        have q14 := hp.2 14 (by omega)
        have q15 := hp.2 15 (by omega)
        have q16 := hp.2 16 (by omega)
        have q17 := hp.2 17 (by omega)
        have q18 := hp.2 18 (by omega)
        simp only [ok1, fb] at q0 q1 q2 q3 q4 q5 q6 q7 q8 q9 q10 q11 q12 q13 q14 q15 q16 q17 q18
        simp at q0 q1 q2 q3 q4 q5 q6 q7 q8 q9 q10 q11 q12 q13 q14 q15 q16 q17 q18
        rw [pt0, pt1, pt2, pt3, pt4, pt5]
        rcases r19 hk with rfl | rfl | rfl | rfl | rfl | rfl | rfl | rfl | rfl | rfl | rfl | rfl | rfl | rfl | rfl | rfl | rfl | rfl | rfl <;> simp [Cal.tl] <;> omega
theorem tx_good {t : Int} (h : Cal.timeOk t) : tx t = strOfNums (Cal.tl (Cal.cY t) (Cal.cM t) (Cal.cD t) (Cal.cH t) (Cal.cI t) (Cal.cS t)) := if_pos h
theorem tx_less {t u : Int} (ht : Cal.timeOk t) (hu : Cal.timeOk u) : Op.bytesLess (tx t).toList (tx u).toList = decide (t < u) := by
  rw [tx_good ht, tx_good hu, ByteArray.toList_eq, ByteArray.toList_eq, strOfNums_data, strOfNums_data, Cal.bytesLess_cmpL _ _ (Cal.tl_byt ht) (Cal.tl_byt hu), Cal.tl_cmp ht hu, Cal.order_of ht hu]
  split
  · simp [*]
  · split <;> simp [*]
theorem tx_inj {t u : Int} (ht : Cal.timeOk t) (hu : Cal.timeOk u) (h : tx t = tx u) : t = u := by
  have a := (parse_text ht).1
  have b := (parse_text hu).1
  rw [h] at a; exact a.symm.trans b
theorem tx_size {t : Int} (h : Cal.timeOk t) : (tx t).size = 19 := by rw [tx_good h, strOfNums_size]; rfl
end Go.Proofs.YtdhlgmclogdplaaDoor
