/- What wheel.enter goes through. -/
import Derived.Test.YtnmgcjkffeeapaaDoorWhC
import Derived.Test.YtnmgcjkffeeapaaDoorWhD
namespace Go.Proofs.YtnmgcjkffeeapaaDoor
open Go.RowKit
set_option linter.unusedVariables false
set_option linter.unusedSimpArgs false
theorem nodup_le : ∀ (n : Nat) (l : List Nat), l.Nodup → (∀ x ∈ l, x < n) → l.length ≤ n
  | 0, l, _, h => by
    cases l with
    | nil => simp
    | cons x l => exact absurd (h x (by simp)) (by omega)
  | n + 1, l, hn, h => by
    have h1 : (l.erase n).length ≤ n := by
      refine nodup_le n _ (hn.erase n) fun x hx => ?_
      have h2 := h x (List.mem_of_mem_erase hx)
      have h3 : x ≠ n := fun e => by subst e; exact (hn.not_mem_erase) hx
      omega
    by_cases hm : n ∈ l
    · rw [List.length_erase_of_mem hm] at h1; omega
    · rw [List.erase_of_not_mem hm] at h1; omega
/-- the rows hold each timer once -/
def Wd (S : Nat → Bool) (R : Nat → List Nat) : Prop := ∃ c, Whp.WC c S R
theorem Wd.mv {S : Nat → Bool} {R : Nat → List Nat} (h : Wd S R) (t : Nat → Nat) (f r : Nat) : Wd S (Whp.mv1 t f R r) := by
  obtain ⟨c, h⟩ := h
  exact ⟨_, Whp.mv_wc (t := t) (f := f) r h⟩
theorem mv_small {S : Nat → Bool} {R : Nat → List Nat} {n : Nat} (h : Wd S R) (hn : n ≤ 60) (hR : ∀ j i, i ∈ R j → i < n) (t : Nat → Nat) (f r k : Nat) (hk : k < (R r).length) : (Whp.mv t f R r k (Whp.loc (t (R r)[k]) f)).length < 60 := by
  obtain ⟨c, h2⟩ := h.mv t f r
  have hnd := (h2 (Whp.loc (t (R r)[k]) f)).1
  have hsub : (Whp.mv t f R r (k + 1) (Whp.loc (t (R r)[k]) f)).Sublist (Whp.mv1 t f R r (Whp.loc (t (R r)[k]) f)) := by
    unfold Whp.mv1 Whp.mv
    refine List.Sublist.append (List.Sublist.refl _) (List.Sublist.filter _ ?_)
    rw [List.take_length]
    exact List.take_sublist _ _
  have h3 := nodup_le n _ (hnd.sublist hsub) (fun x hx => by
    unfold Whp.mv at hx
    rcases List.mem_append.1 hx with q | q
    · split at q
      · cases q
      · exact hR _ x q
    · exact hR r x (List.mem_of_mem_take (List.mem_filter.1 q).1))
  rw [Whp.mv_succ t f R r k hk] at h3
  simp only [if_true] at h3
  rw [List.length_append, List.length_singleton] at h3
  omega
theorem mv_next (t : Nat → Nat) (f : Nat) (R : Nat → List Nat) (r k : Nat) (hk : k < (R r).length) : upd (Whp.mv t f R r k) (Whp.loc (t (R r)[k]) f) (Whp.mv t f R r k (Whp.loc (t (R r)[k]) f) ++ [(R r)[k]]) = Whp.mv t f R r (k + 1) := by
  rw [Whp.mv_succ t f R r k hk]
  funext j
  unfold upd
  split
  · rename_i e; rw [e]
  · rfl
theorem mv_nil (t : Nat → Nat) (f : Nat) (R : Nat → List Nat) (r : Nat) : upd R r [] = Whp.mv t f R r 0 := (Whp.mv_zero t f R r).symm
/-- k timers of row r, which stands in v, have been placed anew -/
def EnI (F : Nat → Prop) (W A M n : Nat) (T t : Nat → Nat) (idf : Nat → Int) (now f seq : Nat) (R : Nat → List Nat) (r : Nat) (v : Value) (w0 : World) (a : Value) (wr : World) : Prop :=
  ∃ (k : Nat) (F' : Nat → Prop), a = .int .i64 (k : Int) ∧ k ≤ (R r).length ∧ Wl F' W A M n T t idf now f seq (Whp.mv t f R r k) wr ∧ wr.ownsRow 0 61 1 v (R r).length ((R r).map fun i => Value.pointer (some ⟨T i, 0, none⟩)) ∧ (∀ g, v.ownBlock = some g → ¬ F' g) ∧ Fp F w0 wr ∧ Gw w0.heap.size F F'
/-- what is left of the levels -/
def EnO (F : Nat → Prop) (W A M n : Nat) (T t : Nat → Nat) (idf : Nat → Int) (now f seq : Nat) (S : Nat → Bool) (R : Nat → List Nat) (w0 : World) (a : Value) (wr : World) : Prop :=
  ∃ (F' : Nat → Prop) (R' : Nat → List Nat), Wl F' W A M n T t idf now f seq R' wr ∧ Wd S R' ∧ Fp F w0 wr ∧ Gw w0.heap.size F F' ∧
    ((a = .int .i64 3 ∧ R' = R) ∨ (a = .int .i64 2 ∧ R' = Whp.mv1 t f R (192 + f / 262144 % 64)) ∨ (a = .int .i64 1 ∧ R' = Whp.mv1 t f (Whp.mv1 t f R (192 + f / 262144 % 64)) (128 + f / 4096 % 64)) ∨ (a = .int .i64 0 ∧ R' = Whp.mv1 t f (Whp.mv1 t f (Whp.mv1 t f R (192 + f / 262144 % 64)) (128 + f / 4096 % 64)) (64 + f / 64 % 64)))
section
variable {F : Nat → Prop} {W A M n now f seq : Nat} {T t : Nat → Nat} {idf : Nat → Int} {rows : Nat → List Nat} {w w' : World}
theorem Wl.mem (h : Wl F W A M n T t idf now f seq rows w) : ∀ j i, i ∈ rows j → i < n := by
  obtain ⟨vs, us, h1, h2, h3, h4⟩ := h; exact h4
/-- the far timers are taken out -/
theorem far_out (h : Wl F W A M n T t idf now f seq rows w) : ∃ v, w.cell? ⟨W, 265, none⟩ = some v ∧ w.frozen? ⟨W, 265, none⟩ = false ∧ Emptied F W A M n T t idf now f seq rows 256 w v (w.setCell ⟨W, 265, none⟩ (.slice none 0 0)) := by
  obtain ⟨vs, us, h1, h2, h3, h4⟩ := h
  have ho : off 256 = 265 := rfl
  have hd := h2.drop 256 (by omega)
  have b1 := h1.setRow 256 (by omega) (.slice none 0 0)
  rw [ho] at b1
  have c1 := h1.cr 256 (by omega)
  rw [ho] at c1
  have hf : Fp (fun b => b = W) w (w.setCell ⟨W, 265, none⟩ (.slice none 0 0)) := Fp.ofFr ((Fr.refl W w).setCell _ _) rfl
  refine ⟨vs 256, c1, h1.fr 265 (by omega), (fun b => F b ∧ (vs 256).ownBlock ≠ some b), ⟨_, _, b1, hd.setW _ _, usok_far h3 [], mem_nil h4 256⟩, hf.owns (h2.ow 256 (by omega)) (fun g hg => (h2.dv 256 (by omega) g hg).2.1), fun g hg => ⟨(h2.dv 256 (by omega) g hg).1, fun q => q.2 hg⟩, fun b hb => hb.1, hf.mono (fun x e => by rw [e]; exact h2.FW)⟩
theorem EnI.start {r : Nat} {v : Value} (h : Emptied F W A M n T t idf now f seq rows r w v w') : EnI F W A M n T t idf now f seq rows r v w (.int .i64 0) w' := by
  obtain ⟨F', h1, h2, h3, h4, h5⟩ := h
  rw [mv_nil t f] at h1
  exact ⟨0, F', rfl, Nat.zero_le _, h1, h2, fun g hg => (h3 g hg).2, h5, fun b hb => .inl (h4 b hb)⟩
end
theorem row_ptr {w : World} {g N cap : Nat} {T : Nat → Nat} {l : List Nat} (h : w.ownsRow 0 61 1 (.slice (some ⟨g, 0, none⟩) N cap) l.length (l.map fun i => Value.pointer (some ⟨T i, 0, none⟩))) (k : Nat) (hk : k < l.length) : w.cell? ⟨g, k, none⟩ = some (.pointer (some ⟨T l[k], 0, none⟩)) := by
  have := h.cells (g := g) rfl k (.pointer (some ⟨T l[k], 0, none⟩)) (by simp [hk])
  rw [Addr.add_lit] at this
  simpa using this
end Go.Proofs.YtnmgcjkffeeapaaDoor
