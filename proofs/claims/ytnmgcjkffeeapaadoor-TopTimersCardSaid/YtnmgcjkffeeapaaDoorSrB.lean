/- Sorting a row of timers by slices.SortFunc. -/
import Derived.Test.YtnmgcjkffeeapaaDoorSrt
import Derived.Test.YtnmgcjkffeeapaaDoorCmA
import Derived.Test.YtnmgcjkffeeapaaDoorWhB
namespace Go.Proofs.YtnmgcjkffeeapaaDoor
open Go.RowKit Go.Sort Go.Lib
set_option linter.unusedVariables false
set_option linter.unusedSimpArgs false
theorem grow_q (w : World) (q : Nat) (os : Array Obj) : Q w (grow (w.drewN q) os) := by
  refine ⟨rfl, rfl, rfl, by simp [grow], fun k hk => ?_⟩
  exact heap_grow_old _ _ (by simpa using hk)
/-- comparing two timers -/
theorem before_tm (T t : Nat → Nat) (idf : Nat → Int) (i k : Nat) (w : World) (hi : Tm T t idf i w) (hk : Tm T t idf k w) : Calls Tryd.prog 26 #[.pointer (some ⟨T i, 0, none⟩), .pointer (some ⟨T k, 0, none⟩)] w fun e w' => e = .returned (.int .i64 (orI (cmpI (t i) (t k)) (cmpI ((i : Int) + 1) ((k : Int) + 1)))) ∧ ∃ q os, w' = grow (w.drewN q) os :=
  before_any (T i) (T k) _ _ _ _ w hi.c0 hi.c3 hk.c0 hk.c3
theorem lt_bef (t : Nat → Nat) (i k : Nat) : orI (cmpI (t i) (t k)) (cmpI ((i : Int) + 1) ((k : Int) + 1)) < 0 ↔ Whp.bef t i k := by
  unfold orI cmpI Whp.bef
  by_cases h1 : (t i : Int) < t k
  · simp [h1]; omega
  · by_cases h2 : (t k : Int) < t i
    · simp [h1, h2]; omega
    · by_cases h3 : (i : Int) + 1 < (k : Int) + 1
      · simp [h1, h2, h3]; omega
      · by_cases h4 : (k : Int) + 1 < (i : Int) + 1
        · simp [h1, h2, h3, h4]; omega
        · simp [h1, h2, h3, h4]; omega
section
variable {n : Nat}
def encT (T : Nat → Nat) (x : Fin n) : Value := .pointer (some ⟨T x.1, 0, none⟩)
def cfT (t : Nat → Nat) (x y : Fin n) : Int := orI (cmpI (t x.1) (t y.1)) (cmpI ((x.1 : Int) + 1) ((y.1 : Int) + 1))
theorem ltT (t : Nat → Nat) (x y : Fin n) : ltOf (cfT t) x y = decide (t x.1 < t y.1 ∨ (t x.1 = t y.1 ∧ x.1 < y.1)) := by
  unfold ltOf cfT
  rw [Bool.eq_iff_iff, decide_eq_true_iff, decide_eq_true_iff, lt_bef]
  rfl
theorem swoT (t : Nat → Nat) : SWO (ltOf (cfT (n := n) t)) where
  irrefl x := by rw [ltT]; simp
  trans x y z h1 h2 := by rw [ltT] at *; simp at *; omega
  ntrans x y z h1 h2 := by rw [ltT] at *; simp at *; omega
variable [Inhabited (Fin n)]
theorem take_putT (T : Nat → Nat) (cur : Array Value) (d : Array (Fin n)) (h : d.size ≤ cur.size) : (putCells (encT T) 0 d cur).toList.take d.size = d.toList.map (encT T) := by
  apply List.ext_getElem?
  intro j
  by_cases hj : j < d.size
  · rw [List.getElem?_take_of_lt hj, Array.getElem?_toList]
    simp [putCells, hj, show j < cur.size by omega]
  · rw [List.getElem?_take_eq_none (by omega), List.getElem?_eq_none (by simp; omega)]
theorem sw_fp (T : Nat → Nat) (w : World) (g m : Nat) (d : Array (Fin n)) (os : Array Obj) : Fp (fun b => b = g) w (sortWorld (encT T) w g 0 m d os) := by
  unfold sortWorld
  refine ⟨rfl, rfl, rfl, by simp [grow, putRow, mapBlock, Sort.ahead], fun k hk hne => ?_⟩
  rw [heap_grow_old _ _ (by simpa [putRow, mapBlock, Sort.ahead] using hk)]
  have : g ≠ k := fun e => hne e.symm
  simp [putRow, mapBlock, Sort.ahead, Array.getElem?_modify, this]
theorem sw_owns (T : Nat → Nat) {w : World} {g cap N m : Nat} {xs : List Value} (d : Array (Fin n)) (os : Array Obj) (h : w.ownsRow 0 61 1 (.slice (some ⟨g, 0, none⟩) N cap) N xs) (hd : d.size = N) : (sortWorld (encT T) w g 0 m d os).ownsRow 0 61 1 (.slice (some ⟨g, 0, none⟩) N cap) N (d.toList.map (encT T)) := by
  refine ⟨by simp [hd], ?_⟩
  rcases h.2 with ⟨h', _⟩ | ⟨g', cap', cur, h', hb, hg, hnc, hcm, hcs, htake⟩
  · simp at h'
  · simp only [Value.slice.injEq, Option.some.injEq, Addr.mk.injEq, and_true, true_and] at h'
    obtain ⟨rfl, rfl⟩ := h'
    have lg : g < w.heap.size := (Array.getElem?_eq_some_iff.1 hg).1
    refine .inr ⟨g, cap, putCells (encT T) 0 d cur, rfl, hb, ?_, hnc, hcm, by simp [putCells, hcs], ?_⟩
    · unfold sortWorld
      rw [heap_grow_old _ _ (by simpa [putRow, mapBlock, Sort.ahead] using lg)]
      simp [putRow, mapBlock, Sort.ahead, Array.getElem?_modify, hg, onCells]
    · rw [Nat.mul_one, ← hd]
      exact take_putT T cur d (by omega)
end
/-- the row is sorted -/
theorem sort_ok (T t : Nat → Nat) (idf : Nat → Int) (n : Nat) (l : List Nat) (g cap : Nat) (w : World) (hown : w.ownsRow 0 61 1 (.slice (some ⟨g, 0, none⟩) l.length cap) l.length (l.map fun i => Value.pointer (some ⟨T i, 0, none⟩)))
    (hl : ∀ i ∈ l, i < n) (hnd : l.Nodup) (h0 : 0 < l.length) (h60 : l.length ≤ 60) (htm : ∀ i, i < n → Tm T t idf i w) (hg : ∀ i, i < n → T i ≠ g) :
    Calls Tryd.prog 25 #[.slice (some ⟨g, 0, none⟩) l.length cap, .func (.func 26) #[] #[]] w fun e w' => e = .returned (.tuple #[]) ∧ ∃ d : List Nat, d.Perm l ∧ d.Pairwise (Whp.bef t) ∧ w'.ownsRow 0 61 1 (.slice (some ⟨g, 0, none⟩) d.length cap) d.length (d.map fun i => Value.pointer (some ⟨T i, 0, none⟩)) ∧ Fp (fun b => b = g) w w' := by
  have hx : l[0] < n := hl _ (List.getElem_mem _)
  haveI : Inhabited (Fin n) := ⟨⟨l[0], hx⟩⟩
  obtain ⟨d0, hd0⟩ : ∃ d0 : List (Fin n), d0.map (·.1) = l := ⟨l.pmap (fun i h => (⟨i, h⟩ : Fin n)) hl, by simp [List.map_pmap]⟩
  have hlen : d0.toArray.size = l.length := by rw [← hd0]; simp
  have lg : g < w.heap.size := by
    have := hown.lt g rfl
    exact this.2
  have hcm : CmpLays1 Tryd.prog 26 #[] (encT T) (cfT (n := n) t) g 0 d0.toArray.size w := by
    intro m os dk hs x y
    have f := sw_fp T w g m dk os
    exact before_tm T t idf x.1 y.1 _ ((htm x.1 x.2).fp f (hg x.1 x.2)) ((htm y.1 y.2).fp f (hg y.1 y.2))
  have hH : Holds (encT T) w g 0 d0.toArray := by
    intro j hj
    have hj2 : j < l.length := by rw [← hlen]; exact hj
    refine ⟨?_, ?_⟩
    · have hc := hown.cells (g := g) rfl j (.pointer (some ⟨T l[j], 0, none⟩)) (by simp [hj2])
      rw [Addr.add_lit] at hc
      rw [hc]
      have e : l[j] = (d0.toArray[j]!).1 := by
        have hj3 : j < d0.length := by simpa using hj
        have : (d0.map (·.1))[j]? = some (d0[j].1) := by simp [hj3]
        rw [hd0] at this
        simp [hj2] at this
        rw [this]
        simp [hj3]
      rw [e]
      rfl
    · rcases hown.2 with ⟨h', _⟩ | ⟨g', cap', cur, h', hb, hgg, _⟩
      · simp at h'
      · simp only [Value.slice.injEq, Option.some.injEq, Addr.mk.injEq, and_true, true_and] at h'
        obtain ⟨rfl, _⟩ := h'
        exact frozen_of_row w g _ cur 61 hgg
  have ks := Any.slices_SortFunc Tryd.sortL (encT T) (fun x => rfl) (cfT (n := n) t) (swoT t) 26 #[] g 0 cap d0.toArray w (enters_of Tryd.func26 (by kernel_rfl) rfl) hcm hH lg (by omega)
  rw [hlen] at ks
  refine ks.mono ?_
  rintro e w' ⟨rfl, d', m, os, ⟨hp1, _, hp3⟩, hs, rfl⟩
  have hsz : d'.size = l.length := by rw [hp1, hlen]
  have e1 : d'.extract 0 l.length = d' := by rw [← hsz]; exact Array.extract_size
  have e2 : d0.toArray.extract 0 l.length = d0.toArray := by rw [← hlen]; exact Array.extract_size
  rw [e1, e2] at hp3
  have hperm : (d'.toList.map (·.1)).Perm l := by
    rw [← hd0]
    exact hp3.map _
  have hdn : (d'.toList.map (·.1)).Nodup := hperm.nodup_iff.2 hnd
  have hdl : (d'.toList.map (·.1)).length = l.length := hperm.length_eq
  have hmm : (d'.toList.map (·.1)).map (fun i => Value.pointer (some ⟨T i, 0, none⟩)) = d'.toList.map (encT T) := by
    rw [List.map_map]; rfl
  refine ⟨rfl, d'.toList.map (·.1), hperm, ?_, ?_, sw_fp T w g m d' os⟩
  · rw [List.pairwise_iff_getElem]
    intro i j hi hj hij
    have hj2 : j < d'.size := by simpa using hj
    have hi2 : i < d'.size := by simpa using hi
    have h1 := hs i j (Nat.zero_le _) hij (by omega)
    rw [ltT] at h1
    have h2 := decide_eq_false_iff_not.1 h1
    have ei : d'[i]! = d'[i] := getElem!_pos d' i hi2
    have ej : d'[j]! = d'[j] := getElem!_pos d' j hj2
    rw [ei, ej] at h2
    have hne : (d'[i]).1 ≠ (d'[j]).1 := by
      have := List.pairwise_iff_getElem.1 hdn i j hi hj hij
      simpa using this
    simp only [List.getElem_map, Array.getElem_toList]
    unfold Whp.bef
    omega
  · rw [hdl, hmm]
    exact sw_owns T d' os hown hsz
end Go.Proofs.YtnmgcjkffeeapaaDoor
