/- A map whose keys alone matter. -/
import Derived.Test.YtnmgcjkffeeapaaDoorBase
import Derived.MapKept
namespace Go.Proofs.YtnmgcjkffeeapaaDoor
open Go.RowKit
open Go.MapKept
set_option linter.unusedVariables false
set_option linter.unusedSimpArgs false
/-- a map with the keys ks, and with entries born at the moments ss -/
def MpAt (M : Nat) (ks ss : List Int) (w : World) : Prop :=
  ∃ es clock, w.heap[M]? = some (.map es clock) ∧ es.toList.map (·.key) = ks.map (Value.int .i64) ∧ ∀ s ∈ ss, ∃ x ∈ es.toList, (x.born : Int) = s
theorem MpAt.lt {M : Nat} {ks ss : List Int} {w : World} (h : MpAt M ks ss w) : M < w.heap.size := by
  obtain ⟨es, cl, hb, _⟩ := h
  exact (Array.getElem?_eq_some_iff.1 hb).1
theorem MpAt.fs {M : Nat} {ks ss : List Int} {T : List Nat} {w w' : World} (h : MpAt M ks ss w) (hf : Fs T w w') (h1 : M ∉ T) : MpAt M ks ss w' := by
  have l := h.lt
  obtain ⟨es, cl, hb, h2⟩ := h
  exact ⟨es, cl, (hf.2.2.2.2 M l h1).trans hb, h2⟩
theorem MpAt.none {M : Nat} {ks ss : List Int} {w : World} (h : MpAt M ks ss w) : MpAt M ks [] w := by
  obtain ⟨es, cl, hb, h2, _⟩ := h
  exact ⟨es, cl, hb, h2, by simp⟩
/-- the world with another map at M -/
def setMap (w : World) (M : Nat) (es : Array MapEntry) (cl : Nat) : World := { w with heap := w.heap.setIfInBounds M (.map es cl) }
theorem setMap_fs (w : World) (M : Nat) (es : Array MapEntry) (cl : Nat) : Fs [M] w (setMap w M es cl) := by
  refine ⟨rfl, rfl, rfl, by simp [setMap], fun j hj hn => ?_⟩
  have : j ≠ M := fun e => hn (by simp [e])
  simp [setMap, Ne.symm this]
theorem setMap_size (w : World) (M : Nat) (es : Array MapEntry) (cl : Nat) : (setMap w M es cl).heap.size = w.heap.size := by simp [setMap]
theorem setMap_at {w : World} {M : Nat} {ks ss : List Int} (h : M < w.heap.size) {es : Array MapEntry} {cl : Nat} (hk : es.toList.map (·.key) = ks.map (Value.int .i64)) (hs : ∀ s ∈ ss, ∃ x ∈ es.toList, (x.born : Int) = s) : MpAt M ks ss (setMap w M es cl) :=
  ⟨es, cl, by simp [setMap, h], hk, hs⟩
theorem mp_keys {ks : List Int} {es : Array MapEntry} (h : es.toList.map (·.key) = ks.map (Value.int .i64)) : ∀ x ∈ es.toList, IsKey (.int .i64) x.key := by
  intro x hx
  have : x.key ∈ es.toList.map (·.key) := List.mem_map.2 ⟨x, hx, rfl⟩
  rw [h] at this
  obtain ⟨k, _, e⟩ := List.mem_map.1 this
  rw [← e]; rfl
theorem mp_mem {ks : List Int} {es : Array MapEntry} (h : es.toList.map (·.key) = ks.map (Value.int .i64)) {j : Nat} {e : MapEntry} {k : Int} (hj : es.toList[j]? = some e) (he : e.key = .int .i64 k) : ks[j]? = some k := by
  have h1 : (es.toList.map (·.key))[j]? = some (.int .i64 k) := by rw [List.getElem?_map, hj, Option.map_some, he]
  rw [h, List.getElem?_map] at h1
  cases hk : ks[j]? with
  | none => rw [hk] at h1; cases h1
  | some a => rw [hk] at h1; simp at h1; rw [h1]
theorem mp_not {ks : List Int} {es : Array MapEntry} (h : es.toList.map (·.key) = ks.map (Value.int .i64)) {k : Int} (hn : ∀ x ∈ es.toList, x.key ≠ .int .i64 k) : k ∉ ks := by
  intro hk
  have : Value.int .i64 k ∈ es.toList.map (·.key) := by rw [h]; exact List.mem_map.2 ⟨k, hk, rfl⟩
  obtain ⟨x, hx, e⟩ := List.mem_map.1 this
  exact hn x hx e
theorem mp_modify {ks ss : List Int} {es : Array MapEntry} (h : es.toList.map (·.key) = ks.map (Value.int .i64)) (hs : ∀ s ∈ ss, ∃ x ∈ es.toList, (x.born : Int) = s) (i : Nat) (f : MapEntry → MapEntry) (hk : ∀ e, es[i]? = some e → (f e).key = e.key) (hb : ∀ e, (f e).born = e.born) : (es.modify i f).toList.map (·.key) = ks.map (Value.int .i64) ∧ ∀ s ∈ ss, ∃ x ∈ (es.modify i f).toList, (x.born : Int) = s := by
  refine ⟨by rw [modify_keys i f hk, h], fun s q => ?_⟩
  obtain ⟨x, hx, e⟩ := hs s q
  obtain ⟨j, hj⟩ := List.mem_iff_getElem?.1 hx
  refine ⟨if i = j then f x else x, List.mem_iff_getElem?.2 ⟨j, ?_⟩, ?_⟩
  · rw [Array.getElem?_toList] at hj ⊢
    rw [Array.getElem?_modify, hj]
    split <;> rfl
  · split
    · rw [hb]; exact e
    · exact e
section
variable {P : Program} {w : World} {mty kt et : TypeId} {M : Nat} {ks ss : List Int}
theorem mp_update (h : MpAt M ks ss w) (hm : P.underlying mty = some (.map kt et)) (hd : P.underlying kt = some (.int .i64)) (k : Int) (v : Value) :
    ∃ es cl, (Instr.mapUpdate mty (.map (some M)) (.int .i64 k) v).run P w = .ok () (setMap w M es cl) ∧ MpAt M (if k ∈ ks then ks else ks ++ [k]) ss (setMap w M es cl) := by
  have hl := h.lt
  obtain ⟨es, cl, hb, hk, hs⟩ := h
  have hks := mp_keys hk
  have hki : IsKey (.int .i64) (.int .i64 k) := rfl
  rcases findNow_spec hki es.toList 0 hks with ⟨h1, h2⟩ | ⟨j, e, h1, h2, h3⟩
  · refine ⟨_, _, by simp [Instr.mapUpdate, run_underlying hm, MapKept.run_getObj_map hb, MapKept.run_checkKey hd hki, MapKept.run_findKey hd h1, MapKept.run_setObj_map _ hb, Result.andThen]; rfl, ?_⟩
    rw [if_neg (mp_not hk h2)]
    refine setMap_at hl (by simp [hk]) fun s q => ?_
    obtain ⟨x, hx, e⟩ := hs s q
    exact ⟨x, by simp [Array.mem_toList_iff.1 hx], e⟩
  · have hj : es[j]? = some e := by simpa using h2
    have hm2 : k ∈ ks := List.mem_iff_getElem?.2 ⟨j, mp_mem hk h2 h3⟩
    refine ⟨_, _, by simp [Instr.mapUpdate, run_underlying hm, MapKept.run_getObj_map hb, MapKept.run_checkKey hd hki, MapKept.run_findKey hd h1, hj, h3, MapKept.run_keyThatStays hki, MapKept.run_setObj_map _ hb, Result.andThen]; rfl, ?_⟩
    rw [if_pos hm2]
    obtain ⟨q1, q2⟩ := mp_modify hk hs j (fun e => { e with key := .int .i64 k, val := v }) (fun e' he' => by rw [hj] at he'; cases he'; exact h3.symm) (fun _ => rfl)
    exact setMap_at hl q1 q2
theorem mp_entry (h : MpAt M ks ss w) (hm : P.underlying mty = some (.map kt et)) (hd : P.underlying kt = some (.int .i64)) {z : Value} (hz : (zeroValue et).run P w = .ok z w) (k : Int) :
    ∃ v s es cl, (Instr.mapEntry mty (.map (some M)) (.int .i64 k)).run P w = .ok (.tuple #[v, .int .i64 s]) (setMap w M es cl) ∧ MpAt M (if k ∈ ks then ks else ks ++ [k]) (s :: ss) (setMap w M es cl) := by
  have hl := h.lt
  obtain ⟨es, cl, hb, hk, hs⟩ := h
  have hks := mp_keys hk
  have hki : IsKey (.int .i64) (.int .i64 k) := rfl
  rcases findNow_spec hki es.toList 0 hks with ⟨h1, h2⟩ | ⟨j, e, h1, h2, h3⟩
  · refine ⟨z, (cl : Int), _, _, by simp [Instr.mapEntry, run_underlying hm, MapKept.run_getObj_map hb, MapKept.run_checkKey hd hki, MapKept.run_findKey hd h1, hz, MapKept.run_setObj_map _ hb, Result.andThen, goInt]; rfl, ?_⟩
    rw [if_neg (mp_not hk h2)]
    refine setMap_at hl (by simp [hk]) fun s q => ?_
    rcases List.mem_cons.1 q with rfl | q
    · exact ⟨⟨.int .i64 k, z, cl⟩, by simp, rfl⟩
    · obtain ⟨x, hx, e⟩ := hs s q
      exact ⟨x, by simp [Array.mem_toList_iff.1 hx], e⟩
  · have hj : es[j]? = some e := by simpa using h2
    have hm2 : k ∈ ks := List.mem_iff_getElem?.2 ⟨j, mp_mem hk h2 h3⟩
    have hs2 : ∀ s ∈ ((e.born : Int) :: ss), ∃ x ∈ es.toList, (x.born : Int) = s := by
      intro s q
      rcases List.mem_cons.1 q with rfl | q
      · exact ⟨e, List.mem_iff_getElem?.2 ⟨j, h2⟩, rfl⟩
      · exact hs s q
    refine ⟨e.val, (e.born : Int), _, _, by simp [Instr.mapEntry, run_underlying hm, MapKept.run_getObj_map hb, MapKept.run_checkKey hd hki, MapKept.run_findKey hd h1, hj, h3, MapKept.run_keyThatStays hki, MapKept.run_setObj_map _ hb, Result.andThen, goInt]; rfl, ?_⟩
    rw [if_pos hm2]
    obtain ⟨q1, q2⟩ := mp_modify hk hs2 j (fun e => { e with key := .int .i64 k }) (fun e' he' => by rw [hj] at he'; cases he'; exact h3.symm) (fun _ => rfl)
    exact setMap_at hl q1 q2
theorem mp_store (h : MpAt M ks ss w) (s : Int) (hs0 : s ∈ ss) (v : Value) :
    ∃ es cl, (Instr.entryStore mty (.map (some M)) (.int .i64 s) v).run P w = .ok () (setMap w M es cl) ∧ MpAt M ks ss (setMap w M es cl) := by
  have hl := h.lt
  obtain ⟨es, cl, hb, hk, hs⟩ := h
  have hf : ∃ i, es.findIdx? (fun e => (e.born : Int) == s) = some i := by
    cases q : es.findIdx? (fun e => (e.born : Int) == s) with
    | some i => exact ⟨i, rfl⟩
    | none =>
      exfalso
      obtain ⟨x, hx, e⟩ := hs s hs0
      have := Array.findIdx?_eq_none_iff.1 q x (Array.mem_toList_iff.1 hx)
      simp [e] at this
  obtain ⟨i, hi⟩ := hf
  obtain ⟨q1, q2⟩ := mp_modify hk hs i (fun e => { e with val := v }) (fun _ _ => rfl) (fun _ => rfl)
  exact ⟨_, _, by simp [Instr.entryStore, MapKept.run_getObj_map hb, asInt, asIntOf, hi, MapKept.run_setObj_map _ hb, Result.andThen]; rfl, setMap_at hl q1 q2⟩
theorem mp_look (h : MpAt M ks ss w) (hm : P.underlying mty = some (.map kt et)) (hd : P.underlying kt = some (.int .i64)) {z : Value} (hz : (zeroValue et).run P w = .ok z w) (k : Int) :
    ∃ v, (Instr.lookup mty (.map (some M)) (.int .i64 k) true).run P w = .ok (.tuple #[v, .bool (decide (k ∈ ks))]) w := by
  obtain ⟨es, cl, hb, hk, hs⟩ := h
  have hks := mp_keys hk
  have hki : IsKey (.int .i64) (.int .i64 k) := rfl
  rcases findNow_spec hki es.toList 0 hks with ⟨h1, h2⟩ | ⟨j, e, h1, h2, h3⟩
  · have := mp_not hk h2
    exact ⟨z, by simp [Instr.lookup, run_underlying hm, MapKept.run_getObj_map hb, MapKept.run_checkKey hd hki, MapKept.run_findKey hd h1, hz, Result.andThen, this]⟩
  · have hm2 : k ∈ ks := List.mem_iff_getElem?.2 ⟨j, mp_mem hk h2 h3⟩
    exact ⟨e.val, by simp [Instr.lookup, run_underlying hm, MapKept.run_getObj_map hb, MapKept.run_checkKey hd hki, MapKept.run_findKey hd h1, Result.andThen, hm2]⟩
theorem map_eraseIdx' {α β : Type} (f : α → β) : ∀ (l : List α) (j : Nat), (l.map f).eraseIdx j = (l.eraseIdx j).map f
  | [], j => by simp
  | x :: l, 0 => by simp
  | x :: l, j + 1 => by simp [map_eraseIdx' f l j]
theorem erase_at {α : Type} [BEq α] [LawfulBEq α] : ∀ (l : List α) (j : Nat) (a : α), l[j]? = some a → (∀ i, i < j → l[i]? ≠ some a) → l.eraseIdx j = l.erase a
  | [], j, a, h, _ => by simp at h
  | x :: l, 0, a, h, _ => by simp at h; subst h; simp
  | x :: l, j + 1, a, h, hn => by
    have hx : x ≠ a := fun e => hn 0 (by omega) (by simp [e])
    simp only [List.eraseIdx_cons_succ]
    rw [List.erase_cons_tail (by simpa using hx)]
    rw [erase_at l j a (by simpa using h) (fun i hi => by have := hn (i + 1) (by omega); simpa using this)]
theorem mp_delete (h : MpAt M ks ss w) (hn : ks.Nodup) (hm : P.underlying mty = some (.map kt et)) (hd : P.underlying kt = some (.int .i64)) (k : Int) (ty : TypeId) :
    ∃ es cl, (Builtin.delete_ #[mty, kt] ty #[.map (some M), .int .i64 k]).run P w = .ok (.tuple #[]) (setMap w M es cl) ∧ MpAt M (ks.erase k) [] (setMap w M es cl) := by
  have hl := h.lt
  obtain ⟨es, cl, hb, hk, hs⟩ := h
  have hks := mp_keys hk
  have hki : IsKey (.int .i64) (.int .i64 k) := rfl
  rcases findNow_spec hki es.toList 0 hks with ⟨h1, h2⟩ | ⟨j, e, h1, h2, h3⟩
  · refine ⟨_, _, by simp [Builtin.delete_, run_underlying hm, MapKept.run_getObj_map hb, MapKept.run_checkKey hd hki, MapKept.run_findKey hd h1, MapKept.run_setObj_map _ hb, Result.andThen]; rfl, ?_⟩
    rw [List.erase_of_not_mem (mp_not hk h2)]
    exact setMap_at hl hk (by simp)
  · have hj := mp_mem hk h2 h3
    refine ⟨_, _, by simp [Builtin.delete_, run_underlying hm, MapKept.run_getObj_map hb, MapKept.run_checkKey hd hki, MapKept.run_findKey hd h1, MapKept.run_setObj_map _ hb, Result.andThen]; rfl, ?_⟩
    refine setMap_at hl ?_ (by simp)
    have hlt : j < ks.length := (List.getElem?_eq_some_iff.1 hj).1
    have hsz : j < es.size := by have := congrArg List.length hk; simp at this; omega
    have e1 : (es.eraseIdxIfInBounds j).toList = es.toList.eraseIdx j := by
      unfold Array.eraseIdxIfInBounds
      rw [dif_pos hsz, Array.toList_eraseIdx]
    have e2 : ks.eraseIdx j = ks.erase k := by
      refine erase_at ks j k hj fun i hi q => ?_
      have h5 : ks[i]'(by omega) = k := by have := List.getElem?_eq_some_iff.1 q; exact this.2
      have h6 : ks[j]'hlt = k := by have := List.getElem?_eq_some_iff.1 hj; exact this.2
      exact List.pairwise_iff_getElem.1 hn i j (by omega) hlt hi (h5.trans h6.symm)
    rw [e1, ← e2, ← map_eraseIdx', ← map_eraseIdx', hk]
theorem mp_len (h : MpAt M ks ss w) (hm : P.underlying mty = some (.map kt et)) (ty : TypeId) : (Builtin.len_ #[mty] ty #[.map (some M)]).run P w = .ok (.int .i64 (ks.length : Int)) w := by
  obtain ⟨es, cl, hb, hk, hs⟩ := h
  have e : es.size = ks.length := by have := congrArg List.length hk; simpa using this
  simp [Builtin.len_, run_underlying hm, MapKept.run_getObj_map hb, Result.andThen, goInt, e]
end
end Go.Proofs.YtnmgcjkffeeapaaDoor
