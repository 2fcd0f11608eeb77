/- A wheel and a heap with the same timers. -/
import Derived.Test.YtnmgcjkffeeapaaDoorLwA
import Derived.Test.YtnmgcjkffeeapaaDoorHeG
namespace Go.Proofs.YtnmgcjkffeeapaaDoor
open Go.RowKit
set_option linter.unusedVariables false
set_option linter.unusedSimpArgs false
def en (t : Nat → Nat) (i : Nat) : En := ⟨(i : Int), (t i : Int), (i : Int)⟩
theorem en_inj {t : Nat → Nat} {i k : Nat} (h : en t i = en t k) : i = k := by
  have : (en t i).id = (en t k).id := by rw [h]
  simp only [en] at this
  omega
/-- the heap's entries are the timers of S -/
def HS (t : Nat → Nat) (S : Nat → Bool) (l : List En) : Prop := l.Nodup ∧ ∀ e, e ∈ l ↔ ∃ i, S i = true ∧ e = en t i
section
variable {t : Nat → Nat} {S : Nat → Bool} {l l' : List En}
theorem HS.push (h : HS t S l) {n : Nat} (hn : S n = false) (hp : l'.Perm (l ++ [en t n])) : HS t (Whp.ins S n) l' := by
  refine ⟨hp.nodup_iff.2 ?_, fun e => ?_⟩
  · rw [List.nodup_append]
    refine ⟨h.1, by simp, fun a ha b hb e => ?_⟩
    simp at hb
    subst hb e
    obtain ⟨i, hi, he⟩ := (h.2 _).1 ha
    rw [← en_inj he, hn] at hi
    cases hi
  · rw [hp.mem_iff, List.mem_append, h.2 e]
    unfold Whp.ins
    constructor
    · rintro (⟨i, hi, he⟩ | q)
      · refine ⟨i, ?_, he⟩
        split
        · rfl
        · exact hi
      · simp at q
        exact ⟨n, by simp, q⟩
    · rintro ⟨i, hi, he⟩
      by_cases e2 : i = n
      · subst e2; right; simp [he]
      · rw [if_neg e2] at hi
        exact .inl ⟨i, hi, he⟩
theorem HS.top (h : HS t S l) (hh : Hep.Hp l) (hl : 0 < l.length) : ∃ i, S i = true ∧ Hep.g l 0 = en t i := by
  have hm : Hep.g l 0 ∈ l := by rw [Hep.g_lt hl]; exact List.getElem_mem _
  exact (h.2 _).1 hm
theorem HS.first (h : HS t S l) (hh : Hep.Hp l) {i : Nat} (hi : S i = true) (hm : ∀ k, S k = true → k ≠ i → Whp.bef t i k) : 0 < l.length ∧ Hep.g l 0 = en t i := by
  have hei : en t i ∈ l := (h.2 _).2 ⟨i, hi, rfl⟩
  have hl : 0 < l.length := List.length_pos_of_mem hei
  refine ⟨hl, ?_⟩
  obtain ⟨k, hk, e⟩ := h.top hh hl
  by_cases q : k = i
  · rw [e, q]
  · exfalso
    obtain ⟨j, hj, ej⟩ := List.mem_iff_getElem.1 hei
    have hr := Hep.root hh j hj
    rw [e, Hep.g_lt hj, ej] at hr
    have hb := hm k hk q
    unfold Whp.bef at hb
    unfold Hep.lt en at hr
    simp only at hr
    omega
theorem HS.pop (h : HS t S l) (hl : 0 < l.length) {i : Nat} (hg : Hep.g l 0 = en t i) (hp : l'.Perm (Hep.popd l)) : HS t (Whp.rem S i) l' := by
  have hpp := Hep.pop_perm hl
  rw [hg] at hpp
  have hnd := hpp.nodup_iff.2 h.1
  rw [List.nodup_cons] at hnd
  refine ⟨hp.nodup_iff.2 hnd.2, fun e => ?_⟩
  rw [hp.mem_iff]
  unfold Whp.rem
  constructor
  · intro he
    obtain ⟨k, hk, ek⟩ := (h.2 e).1 (hpp.mem_iff.1 (List.mem_cons_of_mem _ he))
    refine ⟨k, ?_, ek⟩
    rw [if_neg (fun q => ?_)]
    · exact hk
    · subst q
      rw [ek] at he
      exact hnd.1 he
  · rintro ⟨k, hk, ek⟩
    split at hk
    · cases hk
    · rename_i hne
      have := hpp.mem_iff.2 ((h.2 e).2 ⟨k, hk, ek⟩)
      rcases List.mem_cons.1 this with q | q
      · rw [ek] at q
        exact absurd (en_inj q) hne
      · exact q
theorem HS.nil (h : HS t S l) (hS : ∀ i, S i = false) : l = [] := by
  rw [List.eq_nil_iff_forall_not_mem]
  intro e he
  obtain ⟨i, hi, _⟩ := (h.2 e).1 he
  rw [hS i] at hi
  cases hi
end
theorem upd_app (rows : Nat → List Nat) (j x : Nat) : upd rows j (rows j ++ [x]) = fun k => if k = j then rows k ++ [x] else rows k := by
  funext k
  unfold upd
  split
  · rename_i e; rw [e]
  · rfl
def idn (i : Nat) : Int := (i : Int)
/-- the wheel's part -/
structure LwW (w0 : World) (W A Sb M N n : Nat) (T t : Nat → Nat) (now f : Nat) (S : Nat → Bool) (fresh : Prop) (Fw : Nat → Prop) (rows : Nat → List Nat) (w : World) : Prop where
  wl : Wl Fw W A M n T t idn now f n rows w
  wz : Wz A Sb M N n S fresh w
  dj : Dj Fw A Sb M
  wi : Whp.WInv t f S rows
  nw : ∀ b, Gb Fw A Sb M b → w0.heap.size ≤ b
/-- the heap's part -/
structure LwH (w0 : World) (H Mh n : Nat) (t : Nat → Nat) (S : Nat → Bool) (Fh : Nat → Prop) (v : Value) (l : List En) (w : World) : Prop where
  he : HeAt Fh H Mh v l (n : Int) (n : Int) w
  hp : Hep.Hp l
  hs : HS t S l
  nh : ∀ b, Fh b → w0.heap.size ≤ b
section
variable {w0 w w' : World} {W A Sb M N n H Mh : Nat} {T t : Nat → Nat} {now f : Nat} {S : Nat → Bool} {fresh : Prop} {Fw Fh G : Nat → Prop} {rows : Nat → List Nat} {v : Value} {l : List En}
theorem LwW.fp (h : LwW w0 W A Sb M N n T t now f S fresh Fw rows w) (hf : Fp G w w') (hn : ∀ b, Gb Fw A Sb M b → ¬ G b) : LwW w0 W A Sb M N n T t now f S fresh Fw rows w' :=
  ⟨h.wl.fp hf (fun b hb => hn b (.inl hb)), h.wz.fp hf (hn A (.inr (.inl rfl))) (hn Sb (.inr (.inr (.inl rfl)))) (hn M (.inr (.inr (.inr rfl)))), h.dj, h.wi, h.nw⟩
theorem LwW.lt (h : LwW w0 W A Sb M N n T t now f S fresh Fw rows w) : ∀ b, Gb Fw A Sb M b → b < w.heap.size := by
  obtain ⟨lA, lS, lM⟩ := h.wz.lt
  rintro b (q | rfl | rfl | rfl)
  · exact h.wl.Fl b q
  · exact lA
  · exact lS
  · exact lM
theorem LwH.fp (h : LwH w0 H Mh n t S Fh v l w) (hf : Fp G w w') (hn : ∀ b, Fh b → ¬ G b) : LwH w0 H Mh n t S Fh v l w' := ⟨h.he.fp hf hn, h.hp, h.hs, h.nh⟩
theorem LwH.len (h : LwH w0 H Mh n t S Fh v l w) (hS : ∀ i, S i = true → i < n) : l.length ≤ n := by
  have h1 : (l.map fun e => e.id.toNat).Nodup := by
    rw [List.nodup_iff_pairwise_ne, List.pairwise_map]
    refine List.Pairwise.imp_of_mem ?_ h.hs.1
    intro a b ha hb hne e
    obtain ⟨i, _, rfl⟩ := (h.hs.2 a).1 ha
    obtain ⟨k, _, rfl⟩ := (h.hs.2 b).1 hb
    simp only [en] at e
    have : i = k := by omega
    subst this
    exact hne rfl
  have h2 := nodup_le n _ h1 (fun x hx => by
    obtain ⟨e, he, rfl⟩ := List.mem_map.1 hx
    obtain ⟨i, hi, rfl⟩ := (h.hs.2 e).1 he
    have := hS i hi
    simp only [en]
    omega)
  rw [List.length_map] at h2
  exact h2
/-- a timer has been added to the wheel -/
theorem LwW.added (h : LwW w0 W A Sb M N n T t now f S True Fw rows w) (hs : w0.heap.size ≤ w.heap.size) (hn : S n = false) (hf : f ≤ t n) (ha : Added Fw W A Sb M N n T t idn now f S rows w w') :
    ∃ T' Fw' rows', LwW w0 W A Sb M N (n + 1) T' t now f (Whp.ins S n) True Fw' rows' w' ∧ Fp (Gb Fw A Sb M) w w' ∧ Gw w.heap.size Fw Fw' := by
  obtain ⟨F', b, h1, h2, h3, h4⟩ := ha
  obtain ⟨lA, lS, lM⟩ := h.wz.lt
  refine ⟨_, F', _, ⟨h1, h2, h.dj.gw h4 lA lS lM, (by rw [upd_app]; exact h.wi.add hn hf), fun x hx => ?_⟩, h3, h4⟩
  rcases hx with q | q
  · rcases h4 x q with r | r
    · exact h.nw x (.inl r)
    · omega
  · exact h.nw x (.inr q)
/-- .. and to the heap -/
theorem LwH.pushed (h : LwH w0 H Mh n t S Fh v l w) (hs : w0.heap.size ≤ w.heap.size) (hn : S n = false) (hp : Pushed Fh H Mh l ⟨(n : Int), (t n : Int), (n : Int)⟩ ((n : Int) + 1) ((n : Int) + 1) w w') :
    ∃ Fh' v' l', LwH w0 H Mh (n + 1) t (Whp.ins S n) Fh' v' l' w' ∧ Fp Fh w w' ∧ Gw w.heap.size Fh Fh' := by
  obtain ⟨F', v', l', h1, h2, h3, h4, h5⟩ := hp
  refine ⟨F', v', l', ⟨by rw [show ((n + 1 : Nat) : Int) = (n : Int) + 1 from by omega]; exact h1, h3, h.hs.push hn h2, fun b hb => ?_⟩, h4, h5⟩
  rcases h5 b hb with q | q
  · exact h.nh b q
  · omega
/-- the first entry has been taken -/
theorem LwH.popped (h : LwH w0 H Mh n t S Fh v l w) {i : Nat} (hl : 0 < l.length) (hg : Hep.g l 0 = en t i) (hp : Taken Fh H Mh l (n : Int) (n : Int) w w') : ∃ v' l', LwH w0 H Mh n t (Whp.rem S i) Fh v' l' w' ∧ Fp Fh w w' := by
  obtain ⟨v', l', h1, h2, h3, h4⟩ := hp
  exact ⟨v', l', ⟨h1, h3, h.hs.pop hl hg h2, h.nh⟩, h4⟩
end
/-- both -/
def Lw (w0 : World) (W A Sb M N H Mh n : Nat) (t : Nat → Nat) (now f : Nat) (S S2 : Nat → Bool) (fresh : Prop) (w : World) : Prop :=
  ∃ T Fw rows Fh v l, LwW w0 W A Sb M N n T t now f S fresh Fw rows w ∧ LwH w0 H Mh n t S2 Fh v l w ∧ (∀ b, Fh b → ¬ Gb Fw A Sb M b) ∧ Q w0 w
end Go.Proofs.YtnmgcjkffeeapaaDoor
