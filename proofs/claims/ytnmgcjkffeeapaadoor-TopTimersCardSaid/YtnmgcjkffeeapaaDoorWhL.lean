/- What wheel.Advance goes through. -/
import Derived.Test.YtnmgcjkffeeapaaDoorWhJ
import Derived.Test.YtnmgcjkffeeapaaDoorWhG
import Derived.Test.YtnmgcjkffeeapaaDoorWhF
import Derived.Test.YtnmgcjkffeeapaaDoorSrB
namespace Go.Proofs.YtnmgcjkffeeapaaDoor
open Go.RowKit
set_option linter.unusedVariables false
set_option linter.unusedSimpArgs false
theorem info42 : (Tryd.prog.info? 42).map (fun i => (i.zero, i.size, i.bytes)) = some (some (.agg #[.int .i64 0, .int .i64 0]), 2, 16) := by kernel_rfl
/-- the cells of what has fired -/
def fcs (t : Nat → Nat) (idf : Nat → Int) (d : List Nat) : List Value := d.flatMap fun i => [.int .i64 (t i : Int), .int .i64 (idf i)]
theorem fcs_nil (t : Nat → Nat) (idf : Nat → Int) : fcs t idf [] = [] := rfl
theorem fcs_app (t : Nat → Nat) (idf : Nat → Int) (d : List Nat) (i : Nat) : fcs t idf (d ++ [i]) = fcs t idf d ++ [.int .i64 (t i : Int), .int .i64 (idf i)] := by simp [fcs]
/-- the wheel's own blocks are no one else's -/
structure Dj (F : Nat → Prop) (A Sb M : Nat) : Prop where
  dA : ¬ F A
  dS : ¬ F Sb
  dM : ¬ F M
  nAM : A ≠ M
  nSM : Sb ≠ M
  z0 : ¬ F 0 ∧ A ≠ 0 ∧ Sb ≠ 0 ∧ M ≠ 0
theorem Dj.sub {F F' : Nat → Prop} {A Sb M : Nat} (h : Dj F A Sb M) (hs : ∀ b, F' b → F b) : Dj F' A Sb M := ⟨fun q => h.dA (hs _ q), fun q => h.dS (hs _ q), fun q => h.dM (hs _ q), h.nAM, h.nSM, fun q => h.z0.1 (hs _ q), h.z0.2⟩
theorem Dj.gw {F F' : Nat → Prop} {A Sb M n : Nat} (h : Dj F A Sb M) (hg : Gw n F F') (hA : A < n) (hS : Sb < n) (hM : M < n) : Dj F' A Sb M := by
  have k : ∀ x, x < n → ¬ F x → ¬ F' x := fun x hx hn q => by
    rcases hg x q with q2 | q2
    · exact hn q2
    · omega
  exact ⟨k A hA h.dA, k Sb hS h.dS, k M hM h.dM, h.nAM, h.nSM, k 0 (by omega) h.z0.1, h.z0.2⟩
/-- all blocks of the wheel -/
def Gb (F : Nat → Prop) (A Sb M : Nat) : Nat → Prop := fun b => F b ∨ b = A ∨ b = Sb ∨ b = M
/-- the slice of what has fired: it is new -/
structure Ou (t : Nat → Nat) (idf : Nat → Int) (d : List Nat) (F : Nat → Prop) (A Sb M : Nat) (n0 : Nat) (v : Value) (w : World) : Prop where
  own : w.ownsRow 0 42 2 v d.length (fcs t idf d)
  new : ∀ g, v.ownBlock = some g → n0 ≤ g ∧ ¬ Gb F A Sb M g
theorem Ou.fp {t : Nat → Nat} {idf : Nat → Int} {d : List Nat} {F F' : Nat → Prop} {A Sb M n0 : Nat} {v : Value} {w w' : World} (h : Ou t idf d F A Sb M n0 v w) (hf : Fp (Gb F A Sb M) w w') (hg : Gw w.heap.size F F') : Ou t idf d F' A Sb M n0 v w' := by
  refine ⟨hf.owns h.own (fun g hg => (h.new g hg).2), fun g hv => ⟨(h.new g hv).1, fun q => ?_⟩⟩
  have l := (h.own.lt g hv).2
  have n := (h.new g hv).2
  rcases q with q | q
  · rcases hg g q with q2 | q2
    · exact n (.inl q2)
    · omega
  · exact n (.inr q)
/-- the wheel while time passes: what has fired, and what is left to be done -/
structure AdS (F0 : Nat → Prop) (W A Sb M N n : Nat) (T t : Nat → Nat) (idf : Nat → Int) (now u : Nat) (S0 : Nat → Bool) (w0 : World) (F : Nat → Prop) (f : Nat) (rows : Nat → List Nat) (d : List Nat) (v : Value) (w : World) : Prop where
  wl : Wl F W A M n T t idf now f n rows w
  wz : Wz A Sb M N n (Whp.rmv S0 d) False w
  wi : Whp.WInv t f (Whp.rmv S0 d) rows
  dj : Dj F A Sb M
  ft : f ≤ u + 1
  dr : Whp.Drains t S0 d
  le : ∀ i ∈ d, t i ≤ u
  ou : Ou t idf d F A Sb M w0.heap.size v w
  fp : Fp (Gb F0 A Sb M) w0 w
  gw : Gw w0.heap.size F0 F
  tb : Tab w
theorem Tab.fp {w w' : World} {G : Nat → Prop} (h : Tab w) (hf : Fp G w w') (h0 : ¬ G 0) : Tab w' := fun i hi => (hf.cell (lt_of_cell (h 0 (by omega))) h0 i).trans (h i hi)
theorem min_row {t : Nat → Nat} {f : Nat} {S : Nat → Bool} {rows : Nat → List Nat} (h : Whp.WInv t f S rows) {j : Nat} (hj : ∀ k, k < j → rows k = []) : ∀ i, S i = true → j ≤ Whp.loc (t i) f := by
  intro i hi
  rcases Nat.lt_or_ge (Whp.loc (t i) f) j with q | q
  · have := ((h.1 (Whp.loc (t i) f)).2 i).2 ⟨hi, rfl⟩
    rw [hj _ q] at this
    cases this
  · exact q
theorem none_left {t : Nat → Nat} {f : Nat} {S : Nat → Bool} {rows : Nat → List Nat} (h : Whp.WInv t f S rows) (hj : ∀ k, k < 257 → rows k = []) : ∀ i, S i = true → False := by
  intro i hi
  have := ((h.1 (Whp.loc (t i) f)).2 i).2 ⟨hi, rfl⟩
  rw [hj _ (Whp.loc_lt _ _)] at this
  cases this
/-- the wheel goes on to a later second -/
theorem AdS.enter {F0 F : Nat → Prop} {W A Sb M N n : Nat} {T t : Nat → Nat} {idf : Nat → Int} {now u : Nat} {S0 : Nat → Bool} {w0 w w' : World} {f f' : Nat} {rows : Nat → List Nat} {d : List Nat} {v : Value} (h : AdS F0 W A Sb M N n T t idf now u S0 w0 F f rows d v w) (hf : f ≤ f') (hu : f' ≤ u + 1) (hS : ∀ i, Whp.rmv S0 d i = true → f' ≤ t i)
    (hp : Placed F W A M n T t idf now f' n (Whp.ent t f f' rows) w w') : ∃ F', AdS F0 W A Sb M N n T t idf now u S0 w0 F' f' (Whp.ent t f f' rows) d v w' ∧ Gw w.heap.size F F' := by
  obtain ⟨F', p1, p2, p3⟩ := hp
  obtain ⟨lA, lS, lM⟩ := h.wz.lt
  exact ⟨F', ⟨p1, h.wz.fp p2 h.dj.dA h.dj.dS h.dj.dM, Whp.ent_inv h.wi hf hS, h.dj.gw p3 lA lS lM, hu, h.dr, h.le, h.ou.fp (p2.mono (fun x hx => .inl hx)) p3, h.fp.andThen (G := Gb F A Sb M) (fun b hb => by
    rcases hb with q | q
    · exact (h.gw b q).imp .inl id
    · exact .inl (.inr q)) (p2.mono (fun x hx => .inl hx)), h.gw.trans p3 h.fp.size, h.tb.fp p2 h.dj.z0.1⟩, p3⟩
theorem AdS.q {F0 F : Nat → Prop} {W A Sb M N n : Nat} {T t : Nat → Nat} {idf : Nat → Int} {now u : Nat} {S0 : Nat → Bool} {w0 w w' : World} {f : Nat} {rows : Nat → List Nat} {d : List Nat} {v : Value} (h : AdS F0 W A Sb M N n T t idf now u S0 w0 F f rows d v w) (hq : Q w w') : AdS F0 W A Sb M N n T t idf now u S0 w0 F f rows d v w' :=
  ⟨h.wl.q hq, h.wz.q hq, h.wi, h.dj, h.ft, h.dr, h.le, h.ou.fp (Fp.ofQ hq) (Gw.refl _ _), h.fp.trans (Fp.ofQ hq), h.gw, h.tb.later hq⟩
theorem Fp.new {F G : Nat → Prop} {a b c : World} (h : Fp F a b) (k : Fp G b c) (hg : ∀ x, G x → F x ∨ a.heap.size ≤ x) : Fp F a c := h.andThen (G := G) hg k
theorem drains_nd {t : Nat → Nat} : ∀ {l : List Nat} {S : Nat → Bool}, Whp.Drains t S l → l.Nodup ∧ ∀ i ∈ l, S i = true
  | [], S, _ => ⟨List.nodup_nil, fun i hi => by cases hi⟩
  | i :: l, S, .cons h hm hl => by
    obtain ⟨h1, h2⟩ := drains_nd hl
    refine ⟨List.nodup_cons.2 ⟨fun q => ?_, h1⟩, fun k hk => ?_⟩
    · have := h2 i q
      unfold Whp.rem at this
      rw [if_pos rfl] at this
      cases this
    · rcases List.mem_cons.1 hk with e | e
      · rw [e]; exact h
      · have := h2 k e
        unfold Whp.rem at this
        split at this
        · cases this
        · exact this
theorem drains_len {t : Nat → Nat} {l : List Nat} {S : Nat → Bool} {n : Nat} (h : Whp.Drains t S l) (hS : ∀ i, S i = true → i < n) : l.length ≤ n := nodup_le n l (drains_nd h).1 fun i hi => hS i ((drains_nd h).2 i hi)
theorem rmv_rem (S : Nat → Bool) (l : List Nat) (i : Nat) : Whp.rem (Whp.rmv S l) i = Whp.rmv S (l ++ [i]) := by
  funext k
  unfold Whp.rem Whp.rmv
  by_cases e : k = i
  · subst e; simp
  · simp [e]
/-- k timers of the row that fires have fired -/
def FiR (F0 : Nat → Prop) (W A Sb M N n : Nat) (T t : Nat → Nat) (idf : Nat → Int) (now f : Nat) (S0 : Nat → Bool) (w0 : World) (F : Nat → Prop) (rows : Nat → List Nat) (d dl : List Nat) (g cap : Nat) (a b : Value) (wr : World) : Prop :=
  ∃ k : Nat, b = .int .i64 (k : Int) ∧ k ≤ dl.length ∧ Wl F W A M n T t idf now f n rows wr ∧ Wz A Sb M N n (Whp.rmv S0 (d ++ dl.take k)) False wr ∧ Ou t idf (d ++ dl.take k) F A Sb M w0.heap.size a wr ∧ wr.ownsRow 0 61 1 (.slice (some ⟨g, 0, none⟩) dl.length cap) dl.length (dl.map fun i => Value.pointer (some ⟨T i, 0, none⟩)) ∧ a.ownBlock ≠ some g ∧ Fp (Gb F0 A Sb M) w0 wr ∧ Tab wr
section
variable {F0 : Nat → Prop} {W A Sb M N n : Nat} {T t : Nat → Nat} {idf : Nat → Int} {now u f : Nat} {S0 : Nat → Bool} {w0 w w' w2 w3 : World} {F : Nat → Prop} {rows : Nat → List Nat} {d dl : List Nat} {v : Value}
/-- the row that fires has been taken out and sorted -/
theorem FiR.start {j g cap : Nat} (h : AdS F0 W A Sb M N n T t idf now u S0 w0 F f rows d v w) (hE : Emptied F W A M n T t idf now f n rows j w (.slice (some ⟨g, 0, none⟩) (rows j).length cap) w2)
    (hd : dl.length = (rows j).length) (ho : w3.ownsRow 0 61 1 (.slice (some ⟨g, 0, none⟩) dl.length cap) dl.length (dl.map fun i => Value.pointer (some ⟨T i, 0, none⟩))) (hs : Fp (fun b => b = g) w2 w3) :
    ∃ F', FiR F0 W A Sb M N n T t idf now f S0 w0 F' (upd rows j []) d dl g cap v (.int .i64 0) w3 ∧ (∀ b, F' b → F b) ∧ ¬ Gb F' A Sb M g := by
  obtain ⟨F', e1, e2, e3, e4, e5⟩ := hE
  obtain ⟨hgF, hgn⟩ := e3 g rfl
  have hgA : g ≠ A := fun q => h.dj.dA (q ▸ hgF)
  have hgS : g ≠ Sb := fun q => h.dj.dS (q ▸ hgF)
  have hgM : g ≠ M := fun q => h.dj.dM (q ▸ hgF)
  have hgv : v.ownBlock ≠ some g := fun q => (h.ou.new g q).2 (.inl hgF)
  have hf : Fp F w w3 := e5.trans (hs.mono (fun x e => by rw [e]; exact hgF))
  refine ⟨F', ⟨0, rfl, Nat.zero_le _, e1.fp hs (fun b hb q => hgn (q ▸ hb)), ?_, ?_, ho, hgv, ?_, ?_⟩, e4, ?_⟩
  · rw [List.take_zero, List.append_nil]
    exact h.wz.fp hf h.dj.dA h.dj.dS h.dj.dM
  · rw [List.take_zero, List.append_nil]
    exact h.ou.fp (hf.mono (fun x hx => .inl hx)) (fun b hb => .inl (e4 b hb))
  · exact h.fp.new hf (fun x hx => (h.gw x hx).imp .inl id)
  · exact h.tb.fp hf h.dj.z0.1
  · rintro (q | q | q | q)
    · exact hgn q
    · exact hgA q
    · exact hgS q
    · exact hgM q
/-- one more has fired -/
theorem FiR.next {g cap k i K g9 cap9 : Nat} {D : List Nat} {a : Value} {wr w9 w10 : World} (hk : k < dl.length) (hD : d ++ dl.take (k + 1) = D ++ [i]) (hK : D.length = K) (hw : Wl F W A M n T t idf now f n rows wr) (hou : Ou t idf D F A Sb M w0.heap.size a wr) (hown : wr.ownsRow 0 61 1 (.slice (some ⟨g, 0, none⟩) dl.length cap) dl.length (dl.map fun i => Value.pointer (some ⟨T i, 0, none⟩))) (hne : a.ownBlock ≠ some g) (hfp : Fp (Gb F0 A Sb M) w0 wr) (htb : Tab wr) (dj : Dj F A Sb M) (hgw : Gw w0.heap.size F0 F) (hG : ¬ Gb F A Sb M g) (hlA : A < wr.heap.size ∧ Sb < wr.heap.size ∧ M < wr.heap.size) (hl0 : a.ownBlock ≠ some 0)
    (f9 : Fp (fun b => a.ownBlock = some b) wr w9) (hown9 : w9.ownsRow 0 42 2 (.slice (some ⟨g9, 0, none⟩) (K + 1) cap9) (K + 1) (fcs t idf D ++ [.int .i64 (t i : Int), .int .i64 (idf i)])) (hat : a.ownBlock = some g9 ∨ wr.heap.size ≤ g9)
    (hz : Wz A Sb M N n (Whp.rem (Whp.rmv S0 D) i) False w10) (f10 : Fp (fun b => b = A ∨ b = Sb ∨ b = M) w9 w10) :
    FiR F0 W A Sb M N n T t idf now f S0 w0 F rows d dl g cap (.slice (some ⟨g9, 0, none⟩) (K + 1) cap9) (.int .i64 (((k + 1 : Nat)) : Int)) w10 := by
  have lg : g < wr.heap.size := (hown.lt g rfl).2
  have hg9 : w0.heap.size ≤ g9 ∧ ¬ Gb F A Sb M g9 := by
    rcases hat with q | q
    · exact hou.new g9 q
    · refine ⟨Nat.le_trans hfp.size q, ?_⟩
      rintro (r | r | r | r)
      · have := hw.Fl g9 r; omega
      · omega
      · omega
      · omega
  have hw9 := hw.fp f9 (fun b hb q => (hou.new b q).2 (.inl hb))
  have hl : (D ++ [i]).length = K + 1 := by rw [List.length_append, hK]; rfl
  refine ⟨k + 1, rfl, hk, hw9.fp f10 (fun b hb q => ?_), ?_, ⟨?_, fun x hx => ?_⟩, ?_, ?_, ?_, ?_⟩
  · rcases q with q | q | q
    · exact dj.dA (q ▸ hb)
    · exact dj.dS (q ▸ hb)
    · exact dj.dM (q ▸ hb)
  · rw [hD, ← rmv_rem]; exact hz
  · rw [hD, hl, fcs_app]
    exact f10.owns hown9 (fun x hx q => by
      have e : g9 = x := by simpa [Value.ownBlock] using hx
      subst e
      exact hg9.2 (.inr q))
  · have e : g9 = x := by simpa [Value.ownBlock] using hx
    subst e
    exact hg9
  · refine f10.owns (f9.owns hown (fun x hx => ?_)) (fun x hx q => ?_)
    · have e : g = x := by simpa [Value.ownBlock] using hx
      subst e
      exact hne
    · have e : g = x := by simpa [Value.ownBlock] using hx
      subst e
      exact hG (.inr q)
  · intro q
    have e : g9 = g := by simpa [Value.ownBlock] using q
    subst e
    rcases hat with r | r
    · exact hne r
    · omega
  · refine (hfp.new f9 (fun x hx => .inr (hou.new x hx).1)).new f10 (fun x hx => .inl (.inr hx))
  · refine (htb.fp f9 hl0).fp f10 ?_
    rintro (q | q | q)
    · exact dj.z0.2.1 q.symm
    · exact dj.z0.2.2.1 q.symm
    · exact dj.z0.2.2.2 q.symm
/-- the row has fired -/
theorem FiR.done {j : Nat} {F' : Nat → Prop} {a : Value} (h : AdS F0 W A Sb M N n T t idf now u S0 w0 F f rows d v w) (hF : ∀ b, F' b → F b)
    (hfi : Whp.Drains t (Whp.rmv S0 d) dl ∧ (∀ i ∈ dl, t i = Whp.beg j f) ∧ Whp.WInv t f (Whp.rmv (Whp.rmv S0 d) dl) (upd rows j []) ∧ ∀ i, Whp.rmv (Whp.rmv S0 d) dl i = true → Whp.beg j f + 1 ≤ t i) (hu : Whp.beg j f ≤ u)
    (hw : Wl F' W A M n T t idf now f n (upd rows j []) w') (hz : Wz A Sb M N n (Whp.rmv S0 (d ++ dl)) False w') (ho : Ou t idf (d ++ dl) F' A Sb M w0.heap.size a w') (hfp : Fp (Gb F0 A Sb M) w0 w') (ht : Tab w') :
    AdS F0 W A Sb M N n T t idf now u S0 w0 F' f (upd rows j []) (d ++ dl) a w' :=
  ⟨hw, hz, by rw [← Whp.rmv_append]; exact hfi.2.2.1, h.dj.sub hF, h.ft, Whp.Drains.append h.dr hfi.1, fun i hi => by
    rcases List.mem_append.1 hi with q | q
    · exact h.le i q
    · rw [hfi.2.1 i q]; exact hu, ho, hfp, fun b hb => h.gw b (hF b hb), ht⟩
end
/-- what Advance leaves -/
def Advd (F0 : Nat → Prop) (W A Sb M N n : Nat) (T t : Nat → Nat) (idf : Nat → Int) (u : Nat) (S0 : Nat → Bool) (w0 : World) (v : Value) (w : World) : Prop :=
  ∃ F rows d, AdS F0 W A Sb M N n T t idf u u S0 w0 F (u + 1) rows d v w ∧ ∀ i, Whp.rmv S0 d i = true → u + 1 ≤ t i
end Go.Proofs.YtnmgcjkffeeapaaDoor
