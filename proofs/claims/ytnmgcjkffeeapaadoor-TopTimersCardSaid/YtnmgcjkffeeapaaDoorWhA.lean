/- A wheel's rows in memory. -/
import Derived.Test.YtnmgcjkffeeapaaDoorBase
import Derived.Test.YtnmgcjkffeeapaaDoorWhr
import Derived.Deep.AppendLies
namespace Go.Proofs.YtnmgcjkffeeapaaDoor
open Go.RowKit
set_option linter.unusedVariables false
set_option linter.unusedSimpArgs false
/-- new blocks, draws, and the blocks of F -/
def Fp (F : Nat → Prop) (w w' : World) : Prop := w'.os = w.os ∧ w'.tape = w.tape ∧ w'.output = w.output ∧ w.heap.size ≤ w'.heap.size ∧ ∀ j, j < w.heap.size → ¬ F j → w'.heap[j]? = w.heap[j]?
/-- what belongs to F' belonged to F, or is new -/
def Gw (n : Nat) (F F' : Nat → Prop) : Prop := ∀ b, F' b → F b ∨ n ≤ b
theorem Gw.refl (n : Nat) (F : Nat → Prop) : Gw n F F := fun _ h => .inl h
theorem Gw.trans {n m : Nat} {F F' F2 : Nat → Prop} (h : Gw n F F') (k : Gw m F' F2) (hm : n ≤ m) : Gw n F F2 := fun b hb => by
  rcases k b hb with q | q
  · exact h b q
  · exact .inr (Nat.le_trans hm q)
section
variable {F G : Nat → Prop} {w w' a b c : World}
theorem Fp.ofQ (h : Q w w') : Fp F w w' := ⟨h.os, h.tape, h.output, h.size, fun j hj _ => h.block j hj⟩
theorem Fp.refl (F : Nat → Prop) (w : World) : Fp F w w := Fp.ofQ (Q.refl w)
theorem Fp.ofFs {S : List Nat} (h : Fs S w w') (hs : ∀ x ∈ S, F x) : Fp F w w' := ⟨h.1, h.2.1, h.2.2.1, h.2.2.2.1, fun j hj hn => h.2.2.2.2 j hj (fun hm => hn (hs j hm))⟩
theorem Fp.ofFr {x : Nat} (h : Fr x w w') (hs : F x) : Fp F w w' := Fp.ofFs (Fs.ofFr (S := [x]) h (by simp)) (by simpa using hs)
theorem Fp.ofGrown {r : Option Nat} (h : w.grownBy w' r) (hs : ∀ x, r = some x → F x) : Fp F w w' := ⟨h.os, h.tape, h.output, h.size, fun j hj hn => h.block j hj (fun e => hn (hs j e.symm))⟩
theorem Fp.size (h : Fp F w w') : w.heap.size ≤ w'.heap.size := h.2.2.2.1
theorem Fp.mono (h : Fp F w w') (hs : ∀ x, F x → G x) : Fp G w w' := ⟨h.1, h.2.1, h.2.2.1, h.2.2.2.1, fun j hj hn => h.2.2.2.2 j hj (fun e => hn (hs j e))⟩
theorem Fp.trans (h : Fp F a b) (k : Fp F b c) : Fp F a c :=
  ⟨k.1.trans h.1, k.2.1.trans h.2.1, k.2.2.1.trans h.2.2.1, Nat.le_trans h.size k.size, fun j hj hb => (k.2.2.2.2 j (Nat.lt_of_lt_of_le hj h.size) hb).trans (h.2.2.2.2 j hj hb)⟩
theorem Fp.andThen (h : Fp F a b) (hg : Gw a.heap.size F G) (k : Fp G b c) : Fp F a c :=
  ⟨k.1.trans h.1, k.2.1.trans h.2.1, k.2.2.1.trans h.2.2.1, Nat.le_trans h.size k.size, fun j hj hb => (k.2.2.2.2 j (Nat.lt_of_lt_of_le hj h.size) (fun hG => by rcases hg j hG with q | q; exact hb q; omega)).trans (h.2.2.2.2 j hj hb)⟩
theorem Fp.block (h : Fp F w w') {j : Nat} (hj : j < w.heap.size) (hn : ¬ F j) : w'.heap[j]? = w.heap[j]? := h.2.2.2.2 j hj hn
theorem Fp.cell (h : Fp F w w') {j : Nat} (hj : j < w.heap.size) (hn : ¬ F j) (o : Nat) : w'.cell? ⟨j, o, none⟩ = w.cell? ⟨j, o, none⟩ := by
  have := h.block hj hn
  simp only [World.cell?, this]
theorem Fp.frozen (h : Fp F w w') {j : Nat} (hj : j < w.heap.size) (hn : ¬ F j) (o : Nat) : w'.frozen? ⟨j, o, none⟩ = w.frozen? ⟨j, o, none⟩ := by
  have := h.block hj hn
  simp only [World.frozen?, this]
theorem Fp.owns (h : Fp F w w') {base e size : Nat} {v : Value} {n : Nat} {xs : List Value} (ho : w.ownsRow base e size v n xs) (hn : ∀ g, v.ownBlock = some g → ¬ F g) : w'.ownsRow base e size v n xs := by
  refine ⟨ho.1, ?_⟩
  rcases ho.2 with k | ⟨g, cap, cur, rfl, hb, hg, rest⟩
  · exact .inl k
  · refine .inr ⟨g, cap, cur, rfl, hb, ?_, rest⟩
    rw [h.block (Array.getElem?_eq_some_iff.1 hg).1 (hn g rfl)]
    exact hg
end
/-- one timer -/
structure Tm (T t : Nat → Nat) (idf : Nat → Int) (i : Nat) (w : World) : Prop where
  c0 : w.cell? ⟨T i, 0, none⟩ = some (.int .i64 (t i : Int))
  c1 : w.cell? ⟨T i, 1, none⟩ = some (.int .i64 (idf i))
  c2 : w.cell? ⟨T i, 2, none⟩ = some (.int .i64 (4096 + (i : Int)))
  c3 : w.cell? ⟨T i, 3, none⟩ = some (.int .i64 ((i : Int) + 1))
  c4 : ∃ v : Int, w.cell? ⟨T i, 4, none⟩ = some (.int .i64 v)
  c5 : ∃ v : Int, w.cell? ⟨T i, 5, none⟩ = some (.int .i64 v)
  f4 : w.frozen? ⟨T i, 4, none⟩ = false
  f5 : w.frozen? ⟨T i, 5, none⟩ = false
theorem Tm.lt {T t : Nat → Nat} {idf : Nat → Int} {i : Nat} {w : World} (h : Tm T t idf i w) : T i < w.heap.size := lt_of_cell h.c0
theorem Tm.fp {T t : Nat → Nat} {idf : Nat → Int} {i : Nat} {w w' : World} {G : Nat → Prop} (h : Tm T t idf i w) (hf : Fp G w w') (hn : ¬ G (T i)) : Tm T t idf i w' := by
  have l := h.lt
  exact ⟨(hf.cell l hn _).trans h.c0, (hf.cell l hn _).trans h.c1, (hf.cell l hn _).trans h.c2, (hf.cell l hn _).trans h.c3, h.c4.imp fun _ q => (hf.cell l hn _).trans q, h.c5.imp fun _ q => (hf.cell l hn _).trans q, (hf.frozen l hn _).trans h.f4, (hf.frozen l hn _).trans h.f5⟩
theorem Tm.set {T t : Nat → Nat} {idf : Nat → Int} {i : Nat} {w : World} (h : Tm T t idf i w) (o : Nat) (ho : o = 4 ∨ o = 5) (x : Int) : Tm T t idf i (w.setCell ⟨T i, o, none⟩ (.int .i64 x)) := by
  refine ⟨?_, ?_, ?_, ?_, ?_, ?_, by rw [World.frozen?_setCell]; exact h.f4, by rw [World.frozen?_setCell]; exact h.f5⟩
  · rw [sc_ne _ _ _ _ _ (by omega)]; exact h.c0
  · rw [sc_ne _ _ _ _ _ (by omega)]; exact h.c1
  · rw [sc_ne _ _ _ _ _ (by omega)]; exact h.c2
  · rw [sc_ne _ _ _ _ _ (by omega)]; exact h.c3
  · rcases ho with rfl | rfl
    · obtain ⟨v, q⟩ := h.c4
      exact ⟨x, World.cell?_setCell_same _ _ _ q⟩
    · rw [sc_ne _ _ _ _ _ (by omega)]; exact h.c4
  · rcases ho with rfl | rfl
    · rw [sc_ne _ _ _ _ _ (by omega)]; exact h.c5
    · obtain ⟨v, q⟩ := h.c5
      exact ⟨x, World.cell?_setCell_same _ _ _ q⟩
/-- where a row's slice stands in the wheel -/
def off (j : Nat) : Nat := if j = 256 then 265 else 5 + j
theorem off_lt {j : Nat} (h : j < 257) : off j < 266 ∧ 5 ≤ off j ∧ ¬ (261 ≤ off j ∧ off j < 265) := by unfold off; split <;> omega
theorem off_inj {j k : Nat} (h : j < 257) (h' : k < 257) (e : off j = off k) : j = k := by unfold off at e; split at e <;> split at e <;> omega
/-- the wheel's own cells -/
structure Rw (W A M now f seq : Nat) (vs : Nat → Value) (us : Nat → Nat) (w : World) : Prop where
  c0 : w.cell? ⟨W, 0, none⟩ = some (.int .i64 (now : Int))
  c1 : w.cell? ⟨W, 1, none⟩ = some (.int .i64 (f : Int))
  c2 : w.cell? ⟨W, 2, none⟩ = some (.int .i64 (seq : Int))
  c3 : w.cell? ⟨W, 3, none⟩ = some (.pointer (some ⟨A, 0, none⟩))
  c4 : w.cell? ⟨W, 4, none⟩ = some (.map (some M))
  cr : ∀ j, j < 257 → w.cell? ⟨W, off j, none⟩ = some (vs j)
  cu : ∀ L, L < 4 → w.cell? ⟨W, 261 + L, none⟩ = some (.int .u64 (us L : Int))
  fr : ∀ j, j < 266 → w.frozen? ⟨W, j, none⟩ = false
def upd {α : Type} (g : Nat → α) (j : Nat) (v : α) : Nat → α := fun k => if k = j then v else g k
theorem upd_same {α : Type} (g : Nat → α) (j : Nat) (v : α) : upd g j v j = v := by simp [upd]
theorem upd_ne {α : Type} (g : Nat → α) {j k : Nat} (v : α) (h : k ≠ j) : upd g j v k = g k := by simp [upd, h]
section
variable {W A M now f seq : Nat} {vs : Nat → Value} {us : Nat → Nat} {w w' : World}
theorem Rw.lt (h : Rw W A M now f seq vs us w) : W < w.heap.size := lt_of_cell h.c0
theorem Rw.fp {G : Nat → Prop} (h : Rw W A M now f seq vs us w) (hf : Fp G w w') (hn : ¬ G W) : Rw W A M now f seq vs us w' := by
  have l := h.lt
  exact ⟨(hf.cell l hn _).trans h.c0, (hf.cell l hn _).trans h.c1, (hf.cell l hn _).trans h.c2, (hf.cell l hn _).trans h.c3, (hf.cell l hn _).trans h.c4, fun j hj => (hf.cell l hn _).trans (h.cr j hj), fun j hj => (hf.cell l hn _).trans (h.cu j hj), fun j hj => (hf.frozen l hn _).trans (h.fr j hj)⟩
theorem Rw.setNow (h : Rw W A M now f seq vs us w) (x : Nat) : Rw W A M x f seq vs us (w.setCell ⟨W, 0, none⟩ (.int .i64 (x : Int))) :=
  ⟨World.cell?_setCell_same _ _ _ h.c0, (sc_ne _ _ _ _ _ (by omega)).trans h.c1, (sc_ne _ _ _ _ _ (by omega)).trans h.c2, (sc_ne _ _ _ _ _ (by omega)).trans h.c3, (sc_ne _ _ _ _ _ (by omega)).trans h.c4, fun j hj => (sc_ne _ _ _ _ _ (by have := off_lt hj; omega)).trans (h.cr j hj), fun j hj => (sc_ne _ _ _ _ _ (by omega)).trans (h.cu j hj), fun j hj => by rw [World.frozen?_setCell]; exact h.fr j hj⟩
theorem Rw.setFrom (h : Rw W A M now f seq vs us w) (x : Nat) : Rw W A M now x seq vs us (w.setCell ⟨W, 1, none⟩ (.int .i64 (x : Int))) :=
  ⟨(sc_ne _ _ _ _ _ (by omega)).trans h.c0, World.cell?_setCell_same _ _ _ h.c1, (sc_ne _ _ _ _ _ (by omega)).trans h.c2, (sc_ne _ _ _ _ _ (by omega)).trans h.c3, (sc_ne _ _ _ _ _ (by omega)).trans h.c4, fun j hj => (sc_ne _ _ _ _ _ (by have := off_lt hj; omega)).trans (h.cr j hj), fun j hj => (sc_ne _ _ _ _ _ (by omega)).trans (h.cu j hj), fun j hj => by rw [World.frozen?_setCell]; exact h.fr j hj⟩
theorem Rw.setSeq (h : Rw W A M now f seq vs us w) (x : Nat) : Rw W A M now f x vs us (w.setCell ⟨W, 2, none⟩ (.int .i64 (x : Int))) :=
  ⟨(sc_ne _ _ _ _ _ (by omega)).trans h.c0, (sc_ne _ _ _ _ _ (by omega)).trans h.c1, World.cell?_setCell_same _ _ _ h.c2, (sc_ne _ _ _ _ _ (by omega)).trans h.c3, (sc_ne _ _ _ _ _ (by omega)).trans h.c4, fun j hj => (sc_ne _ _ _ _ _ (by have := off_lt hj; omega)).trans (h.cr j hj), fun j hj => (sc_ne _ _ _ _ _ (by omega)).trans (h.cu j hj), fun j hj => by rw [World.frozen?_setCell]; exact h.fr j hj⟩
theorem Rw.setRow (h : Rw W A M now f seq vs us w) (j : Nat) (hj : j < 257) (v : Value) : Rw W A M now f seq (upd vs j v) us (w.setCell ⟨W, off j, none⟩ v) := by
  have ho := off_lt hj
  refine ⟨(sc_ne _ _ _ _ _ (by omega)).trans h.c0, (sc_ne _ _ _ _ _ (by omega)).trans h.c1, (sc_ne _ _ _ _ _ (by omega)).trans h.c2, (sc_ne _ _ _ _ _ (by omega)).trans h.c3, (sc_ne _ _ _ _ _ (by omega)).trans h.c4, fun k hk => ?_, fun k hk => (sc_ne _ _ _ _ _ (by omega)).trans (h.cu k hk), fun k hk => by rw [World.frozen?_setCell]; exact h.fr k hk⟩
  by_cases e : k = j
  · subst e
    rw [upd_same]
    exact World.cell?_setCell_same _ _ _ (h.cr k hk)
  · rw [upd_ne _ _ e]
    exact (sc_ne _ _ _ _ _ (fun q => e (off_inj hj hk q).symm)).trans (h.cr k hk)
theorem Rw.setUsed (h : Rw W A M now f seq vs us w) (L : Nat) (hL : L < 4) (u : Nat) : Rw W A M now f seq vs (upd us L u) (w.setCell ⟨W, 261 + L, none⟩ (.int .u64 (u : Int))) := by
  refine ⟨(sc_ne _ _ _ _ _ (by omega)).trans h.c0, (sc_ne _ _ _ _ _ (by omega)).trans h.c1, (sc_ne _ _ _ _ _ (by omega)).trans h.c2, (sc_ne _ _ _ _ _ (by omega)).trans h.c3, (sc_ne _ _ _ _ _ (by omega)).trans h.c4, fun k hk => (sc_ne _ _ _ _ _ (by have := off_lt hk; omega)).trans (h.cr k hk), fun k hk => ?_, fun k hk => by rw [World.frozen?_setCell]; exact h.fr k hk⟩
  by_cases e : k = L
  · subst e
    rw [upd_same]
    exact World.cell?_setCell_same _ _ _ (h.cu k hk)
  · rw [upd_ne _ _ e]
    exact (sc_ne _ _ _ _ _ (by omega)).trans (h.cu k hk)
end
/-- the rows and the timers -/
structure Rr (F : Nat → Prop) (W n : Nat) (T t : Nat → Nat) (idf : Nat → Int) (rows : Nat → List Nat) (vs : Nat → Value) (w : World) : Prop where
  ow : ∀ j, j < 257 → w.ownsRow 0 61 1 (vs j) (rows j).length ((rows j).map fun i => Value.pointer (some ⟨T i, 0, none⟩))
  tm : ∀ i, i < n → Tm T t idf i w
  FW : F W
  Fl : ∀ b, F b → b < w.heap.size
  dv : ∀ j, j < 257 → ∀ b, (vs j).ownBlock = some b → F b ∧ b ≠ W ∧ ∀ i, i < n → b ≠ T i
  dd : ∀ j k b, j < 257 → k < 257 → (vs j).ownBlock = some b → (vs k).ownBlock = some b → j = k
  dT : ∀ i, i < n → F (T i) ∧ T i ≠ W
  dI : ∀ i k, i < n → k < n → T i = T k → i = k
section
variable {F : Nat → Prop} {W n : Nat} {T t : Nat → Nat} {idf : Nat → Int} {rows : Nat → List Nat} {vs : Nat → Value} {w w' : World}
theorem Rr.fp {G : Nat → Prop} (h : Rr F W n T t idf rows vs w) (hf : Fp G w w') (hn : ∀ b, F b → b ≠ W → ¬ G b) : Rr F W n T t idf rows vs w' :=
  ⟨fun j hj => hf.owns (h.ow j hj) (fun g hg => hn g (h.dv j hj g hg).1 (h.dv j hj g hg).2.1), fun i hi => (h.tm i hi).fp hf (hn _ (h.dT i hi).1 (h.dT i hi).2), h.FW, fun b hb => Nat.lt_of_lt_of_le (h.Fl b hb) hf.size, h.dv, h.dd, h.dT, h.dI⟩
/-- a cell of the wheel's own is written -/
theorem Rr.setW (h : Rr F W n T t idf rows vs w) (o : Nat) (v : Value) : Rr F W n T t idf rows vs (w.setCell ⟨W, o, none⟩ v) :=
  h.fp (G := fun b => b = W) (Fp.ofFr ((Fr.refl W w).setCell o v) rfl) (fun b _ hb => hb)
theorem Rr.setT (h : Rr F W n T t idf rows vs w) {i : Nat} (hi : i < n) (o : Nat) (ho : o = 4 ∨ o = 5) (x : Int) : Rr F W n T t idf rows vs (w.setCell ⟨T i, o, none⟩ (.int .i64 x)) := by
  have hf : Fp (fun b => b = T i) w (w.setCell ⟨T i, o, none⟩ (.int .i64 x)) := Fp.ofFr ((Fr.refl (T i) w).setCell o _) rfl
  refine ⟨fun j hj => hf.owns (h.ow j hj) (fun g hg => (h.dv j hj g hg).2.2 i hi), fun k hk => ?_, h.FW, fun b hb => Nat.lt_of_lt_of_le (h.Fl b hb) hf.size, h.dv, h.dd, h.dT, h.dI⟩
  by_cases e : k = i
  · subst e; exact (h.tm k hk).set o ho x
  · exact (h.tm k hk).fp hf (fun q => e (h.dI k i hk hi q))
/-- a row is emptied -/
theorem Rr.nil (h : Rr F W n T t idf rows vs w) (j : Nat) : Rr F W n T t idf (upd rows j []) (upd vs j (.slice none 0 0)) w := by
  refine ⟨fun k hk => ?_, h.tm, h.FW, h.Fl, fun k hk b hb => ?_, fun k l b hk hl h1 h2 => ?_, h.dT, h.dI⟩
  · by_cases e : k = j
    · subst e; simp only [upd_same]; exact World.ownsRow_nil w 0 61 1
    · rw [upd_ne _ _ e, upd_ne _ _ e]; exact h.ow k hk
  · by_cases e : k = j
    · subst e; rw [upd_same] at hb; simp [Value.ownBlock] at hb
    · rw [upd_ne _ _ e] at hb; exact h.dv k hk b hb
  · by_cases e : k = j
    · subst e; rw [upd_same] at h1; simp [Value.ownBlock] at h1
    · by_cases e2 : l = j
      · subst e2; rw [upd_same] at h2; simp [Value.ownBlock] at h2
      · rw [upd_ne _ _ e] at h1; rw [upd_ne _ _ e2] at h2; exact h.dd k l b hk hl h1 h2
/-- a timer is appended to a row -/
theorem Rr.app (h : Rr F W n T t idf rows vs w) (j : Nat) (hj : j < 257) (i : Nat) (g cap : Nat) (hown : w'.ownsRow 0 61 1 (.slice (some ⟨g, 0, none⟩) ((rows j).length + 1) cap) ((rows j).length + 1) ((rows j).map (fun i => Value.pointer (some ⟨T i, 0, none⟩)) ++ [Value.pointer (some ⟨T i, 0, none⟩)])) (hgr : w.grownBy w' (vs j).ownBlock) (hat : (vs j).ownBlock = some g ∨ w.heap.size ≤ g) (hlt : g < w'.heap.size) :
    Rr (fun b => F b ∨ b = g) W n T t idf (upd rows j (rows j ++ [i])) (upd vs j (.slice (some ⟨g, 0, none⟩) ((rows j).length + 1) cap)) w' ∧ Fp F w w' ∧ Gw w.heap.size F (fun b => F b ∨ b = g) := by
  have hf : Fp (fun b => (vs j).ownBlock = some b) w w' := Fp.ofGrown hgr (fun x hx => hx)
  have hnew : ∀ b, b < w.heap.size → (vs j).ownBlock ≠ some b → b ≠ g := by
    intro b hb hn e
    subst e
    rcases hat with q | q
    · exact hn q
    · omega
  have lW : W < w.heap.size := h.Fl _ h.FW
  refine ⟨⟨fun k hk => ?_, fun k hk => ?_, .inl h.FW, fun b hb => ?_, fun k hk b hb => ?_, fun k l b hk hl h1 h2 => ?_, fun k hk => ⟨.inl (h.dT k hk).1, (h.dT k hk).2⟩, h.dI⟩, hf.mono (fun x hx => (h.dv j hj x hx).1), fun b hb => ?_⟩
  · by_cases e : k = j
    · subst e
      simp only [upd_same, List.length_append, List.length_singleton, List.map_append, List.map_cons, List.map_nil]
      exact hown
    · rw [upd_ne _ _ e, upd_ne _ _ e]
      exact hf.owns (h.ow k hk) (fun g' hg' q => e (h.dd k j g' hk hj hg' q))
  · exact (h.tm k hk).fp hf (fun q => (h.dv j hj _ q).2.2 k hk rfl)
  · rcases hb with q | q
    · exact Nat.lt_of_lt_of_le (h.Fl b q) hf.size
    · rw [q]; exact hlt
  · by_cases e : k = j
    · subst e
      rw [upd_same] at hb
      have hb' : g = b := by simpa [Value.ownBlock] using hb
      subst hb'
      refine ⟨.inr rfl, ?_, fun i hi => ?_⟩
      · intro q
        exact hnew W lW (fun q2 => (h.dv k hk _ q2).2.1 rfl) q.symm
      · intro q
        exact hnew (T i) (h.tm i hi).lt (fun q2 => (h.dv k hk _ q2).2.2 i hi rfl) q.symm
    · rw [upd_ne _ _ e] at hb
      have := h.dv k hk b hb
      exact ⟨.inl this.1, this.2⟩
  · have key : ∀ k, k < 257 → k ≠ j → (vs k).ownBlock ≠ some g := fun k hk hn q =>
      hnew g (h.Fl g (h.dv k hk g q).1) (fun q2 => hn (h.dd k j g hk hj q q2)) rfl
    by_cases e : k = j
    · by_cases e2 : l = j
      · rw [e, e2]
      · subst e
        rw [upd_same] at h1
        rw [upd_ne _ _ e2] at h2
        have hb' : g = b := by simpa [Value.ownBlock] using h1
        subst hb'
        exact absurd h2 (key l hl e2)
    · rw [upd_ne _ _ e] at h1
      by_cases e2 : l = j
      · subst e2
        rw [upd_same] at h2
        have hb' : g = b := by simpa [Value.ownBlock] using h2
        subst hb'
        exact absurd h1 (key k hk e)
      · rw [upd_ne _ _ e2] at h2
        exact h.dd k l b hk hl h1 h2
  · rcases hb with q | q
    · exact .inl q
    · rcases hat with q2 | q2
      · rw [q]; exact .inl (h.dv j hj g q2).1
      · exact .inr (by rw [q]; exact q2)
end
end Go.Proofs.YtnmgcjkffeeapaaDoor
