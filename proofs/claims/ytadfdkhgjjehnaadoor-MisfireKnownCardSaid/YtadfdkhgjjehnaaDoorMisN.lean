/- The contracts of both Join. -/
import Derived.Test.YtadfdkhgjjehnaaDoorMisM
namespace Go.Proofs.YtadfdkhgjjehnaaDoor
open Go.RowKit
set_option linter.unusedVariables false
set_option linter.unusedSimpArgs false
/-- the second list begins before the first one ends -/
def crs (xs ys : List Int) : Prop := 0 < xs.length ∧ 0 < ys.length ∧ ys.getD 0 0 ≤ xs.getD (xs.length - 1) 0
open Classical in
noncomputable def joinE (p k : Int) (xs ys : List Int) : Int :=
  if Mf.or3 (Mf.chkE p k) (Mf.listE xs) (Mf.listE ys) = 0 then (if crs xs ys then 8 else keepE p k (xs ++ ys)) else Mf.or3 (Mf.chkE p k) (Mf.listE xs) (Mf.listE ys)
open Classical in
noncomputable def joinK (p k : Int) (xs ys : List Int) : List Int := if joinE p k xs ys = 0 then keepK p k (xs ++ ys) else []
def JoinPost (p k : Int) (xs ys : List Int) (w : World) (e : Ending) (w' : World) : Prop :=
  ∃ v, e = .returned (.tuple #[v, .int .i64 (joinE p k xs ys)]) ∧ w'.ownsRow w.heap.size 2 1 v (joinK p k xs ys).length ((joinK p k xs ys).map (Value.int .i64)) ∧ Q w w'
theorem JoinPost.err {p k : Int} {xs ys : List Int} {w w' : World} {x : Int} (h : joinE p k xs ys = x) (hx : x ≠ 0) (q : Q w w') : JoinPost p k xs ys w (.returned (.tuple #[.slice none 0 0, .int .i64 x])) w' := by
  refine ⟨_, by rw [h], ?_, q⟩
  unfold joinK
  rw [if_neg (by rw [h]; exact hx)]
  exact World.ownsRow_nil _ _ _ _
theorem JoinPost.ok {p k : Int} {xs ys : List Int} {w w1 w2 : World} {v1 v2 : Value} (h : joinE p k xs ys = keepE p k (xs ++ ys)) (ht : Two w1.heap.size v1 v2 (keepK p k (xs ++ ys)) (keepD p k (xs ++ ys)) w2) (q1 : Q w w1) (q2 : Q w1 w2) :
    JoinPost p k xs ys w (.returned (.tuple #[v1, .int .i64 (keepE p k (xs ++ ys))])) w2 := by
  refine ⟨_, by rw [h], ?_, q1.trans q2⟩
  have e : joinK p k xs ys = keepK p k (xs ++ ys) := by
    unfold joinK
    rw [h]
    split
    · rfl
    · rename_i h0; unfold keepK; rw [if_neg h0]
  rw [e]
  exact Go.Joins.ownsRow_le ht.1 q1.size
theorem joinE_bad {p k : Int} {xs ys : List Int} (h : Mf.or3 (Mf.chkE p k) (Mf.listE xs) (Mf.listE ys) ≠ 0) : joinE p k xs ys = Mf.or3 (Mf.chkE p k) (Mf.listE xs) (Mf.listE ys) := if_neg h
theorem joinE_crs {p k : Int} {xs ys : List Int} (h : Mf.or3 (Mf.chkE p k) (Mf.listE xs) (Mf.listE ys) = 0) (hc : crs xs ys) : joinE p k xs ys = 8 := by unfold joinE; rw [if_pos h, if_pos hc]
theorem joinE_ok {p k : Int} {xs ys : List Int} (h : Mf.or3 (Mf.chkE p k) (Mf.listE xs) (Mf.listE ys) = 0) (hc : ¬ crs xs ys) : joinE p k xs ys = keepE p k (xs ++ ys) := by unfold joinE; rw [if_pos h, if_neg hc]
theorem own_all {w : World} {base n : Nat} {v : Value} {l : List Int} (hn : l.length = n) (h : w.ownsRow base 2 1 v n (l.map (Value.int .i64))) : ∃ a c, v = .slice a n c ∧ Sl a l w ∧ n ≤ c ∧ (a = none → c = 0) := by
  subst hn; exact own_sl2 h
theorem or3_zero {x y z : Int} (h : Mf.or3 x y z = 0) : x = 0 ∧ y = 0 ∧ z = 0 := by
  unfold Mf.or3 at h
  split at h
  · split at h
    · exact ⟨by assumption, by assumption, h⟩
    · contradiction
  · contradiction
theorem callsQ {f : Nat} {args : Array Value} {v : Value} {w : World} (h : Calls Tryd.prog f args w fun e w' => e = .returned v ∧ w = w') : Calls Tryd.prog f args w fun e w' => e = .returned v ∧ Q w w' :=
  h.mono fun e w' ⟨a, b⟩ => ⟨a, by rw [← b]; exact Q.refl _⟩
set_option maxRecDepth 20000 in
set_option maxHeartbeats 1000000 in
theorem join_any (p k : Int) (a1 a2 : Option Addr) (n1 n2 c1 c2 : Nat) (xs ys : List Int) (e1 : xs.length = n1) (e2 : ys.length = n2) (h1 : n1 ≤ 100000000) (h2 : n2 ≤ 100000000) (z1 : a1 = none → c1 = 0) (z2 : a2 = none → c2 = 0) (w : World) (s1 : Sl a1 xs w) (s2 : Sl a2 ys w) :
    Calls Tryd.prog 26 #[.int .i64 p, .int .i64 k, .slice a1 n1 c1, .slice a2 n2 c2] w (JoinPost p k xs ys w) := by
  have hg1 : goInt n1 = .int .i64 n1 := by simp [goInt]
  have hg2 : goInt n2 = .int .i64 n2 := by simp [goInt]
  have kc := fun w2 => check_any p k w2
  have kx := fun w2 (g : Sl a1 xs w2) => callsQ (list_any a1 xs n1 c1 e1 (by omega) w2 g)
  have ky := fun w2 (g : Sl a2 ys w2) => callsQ (list_any a2 ys n2 c2 e2 (by omega) w2 g)
  have S1 := Lib.hid s1; have S2 := Lib.hid s2
  have E1 := Lib.hid e1; have E2 := Lib.hid e2
  by_cases h0 : Mf.or3 (Mf.chkE p k) (Mf.listE xs) (Mf.listE ys) = 0
  · obtain ⟨x0, yy0, zz0⟩ := or3_zero h0
    rw [x0] at kc
    rw [yy0] at kx
    rw [zz0] at ky
    have y0 : (Mf.or3 0 0 0 != 0) = false := by decide
    have kco := fun b cc w2 hb r1 r2 s1 s2 => concat_two b a1 a2 n1 n2 c1 c2 cc xs ys e1 e2 h1 h2 z1 z2 w2 hb r1 r2 s1 s2
    have kk := fun a c (hc : n1 + n2 ≤ c) w2 h => keep_any p k a (xs ++ ys) (n1 + n2) c (by rw [List.length_append, e1, e2]) (by omega) hc w2 h
    unfold KeepPost at kk
    obtain ⟨N, hN⟩ : ∃ N, n1 + n2 = N := ⟨_, rfl⟩
    have HL : Hid ((xs ++ ys).length = N) := Lib.hid (by rw [List.length_append, e1, e2, hN])
    simp only [hN] at kco kk
    have HN2 := Lib.hid hN
    clear hN
    by_cases hc : crs xs ys
    · have hE := Lib.hid (joinE_crs h0 hc)
      obtain ⟨q1, q2, q3⟩ := hc
      rw [e1] at q1
      rw [e2] at q2
      rw [e1] at q3
      rcases s1 with s1 | ⟨b1, o1, rfl, hl1, r1⟩
      · omega
      rcases s2 with s2 | ⟨b2, o2, rfl, hl2, r2⟩
      · omega
      have v1 := r1 (n1 - 1) (by omega)
      have v2 := r2 0 (by omega)
      rw [Nat.add_zero] at v2
      obtain ⟨x, hx⟩ : ∃ x, xs.getD (n1 - 1) 0 = x := ⟨_, rfl⟩
      obtain ⟨y, hy⟩ : ∃ x, ys.getD 0 0 = x := ⟨_, rfl⟩
      rw [hx] at v1 q3
      rw [hy] at v2 q3
      have y1 : decide ((0 : Int) < (n1 : Int)) = true := by simp; omega
      have y2 : decide ((0 : Int) < (n2 : Int)) = true := by simp; omega
      have y3 : ((n1 : Int) - 1).toNat = n1 - 1 := by omega
      have y4 : (0 : Int) ≤ (n1 : Int) - 1 ∧ (n1 : Int) - 1 < (n1 : Int) := by omega
      have y5 : decide (y ≤ x) = true := by simp; omega
      clear r1 r2 hx hy h0 e1 e2 x0 yy0 zz0 kk
      go_enter Tryd.func26, Tryd.ntmps26
      go_wp2_with (first
        | (go_at_call 19; refine (kc _).mono ?_; rintro e u1 ⟨rfl, hq1⟩)
        | (go_at_call 33; with_reducible refine (kx _ ?_).mono ?_; (exact S1.out.later (by (repeat (first | exact Q.refl _ | assumption | refine Q.alloc ?_ _ | refine Q.drew ?_ | refine Q.drewN ?_ _ | refine Q.trans ?_ (by assumption))))); rintro e u2 ⟨rfl, hq2⟩)
        | (go_at_call 33; with_reducible refine (ky _ ?_).mono ?_; (exact S2.out.later (by (repeat (first | exact Q.refl _ | assumption | refine Q.alloc ?_ _ | refine Q.drew ?_ | refine Q.drewN ?_ _ | refine Q.trans ?_ (by assumption))))); rintro e u3 ⟨rfl, hq3⟩)
        | (go_at_call 32; refine (or3_any _ 0 0 0 _ ?_ ?_ ?_).mono ?_; (· simp); (· simp); (· simp); rintro e u4 ⟨rfl, rfl⟩)
        | (go_at_call 40; refine (kco _ _ _ ?_ ?_ ?_ ?_ ?_).mono ?_; (· simp); (· simp); (· simp); (exact S1.out.later (by (repeat (first | exact Q.refl _ | assumption | refine Q.alloc ?_ _ | refine Q.drew ?_ | refine Q.drewN ?_ _ | refine Q.trans ?_ (by assumption))))); (exact S2.out.later (by (repeat (first | exact Q.refl _ | assumption | refine Q.alloc ?_ _ | refine Q.drew ?_ | refine Q.drewN ?_ _ | refine Q.trans ?_ (by assumption))))); rintro e u5 ⟨v, rfl, ho, hq5⟩; have hqz : Q w u5 := (by (repeat (first | exact Q.refl _ | assumption | refine Q.alloc ?_ _ | refine Q.drew ?_ | refine Q.drewN ?_ _ | refine Q.trans ?_ (by assumption)))); have v1' := (hqz.cell (p := ⟨b1, o1 + (n1 - 1), none⟩) hl1).trans v1; have v2' := (hqz.cell (p := ⟨b2, o2, none⟩) hl2).trans v2; obtain ⟨a5, c5, rfl, s5, d5, f5⟩ := own_all HL.out ho))
      go_quiet (fail)
      go_wp2_with fail
      exact bodyPost_ret (v := .tuple #[.slice none 0 0, .int .i64 8]) (by simp [results, Tryd.results26, go_sem]) rfl (JoinPost.err hE.out (by decide) (by (repeat (first | exact Q.refl _ | assumption | refine Q.alloc ?_ _ | refine Q.drew ?_ | refine Q.drewN ?_ _ | refine Q.trans ?_ (by assumption)))))
    · have hE := Lib.hid (joinE_ok h0 hc)
      have hcn : n1 = 0 ∨ n2 = 0 ∨ (0 < n1 ∧ 0 < n2 ∧ ¬ ys.getD 0 0 ≤ xs.getD (n1 - 1) 0) := by
        rcases Nat.eq_zero_or_pos n1 with q | q
        · exact Or.inl q
        · rcases Nat.eq_zero_or_pos n2 with r | r
          · exact Or.inr (Or.inl r)
          · exact Or.inr (Or.inr ⟨q, r, fun t => hc ⟨by omega, by omega, by rw [e1]; exact t⟩⟩)
      clear h0 x0 yy0 zz0 hc
      rcases hcn with rfl | rfl | ⟨q1, q2, q3⟩
      · clear s1 s2 e1 e2
        go_enter Tryd.func26, Tryd.ntmps26
        go_wp2_with (first
        | (go_at_call 19; refine (kc _).mono ?_; rintro e u1 ⟨rfl, hq1⟩)
        | (go_at_call 33; with_reducible refine (kx _ ?_).mono ?_; (exact S1.out.later (by (repeat (first | exact Q.refl _ | assumption | refine Q.alloc ?_ _ | refine Q.drew ?_ | refine Q.drewN ?_ _ | refine Q.trans ?_ (by assumption))))); rintro e u2 ⟨rfl, hq2⟩)
        | (go_at_call 33; with_reducible refine (ky _ ?_).mono ?_; (exact S2.out.later (by (repeat (first | exact Q.refl _ | assumption | refine Q.alloc ?_ _ | refine Q.drew ?_ | refine Q.drewN ?_ _ | refine Q.trans ?_ (by assumption))))); rintro e u3 ⟨rfl, hq3⟩)
        | (go_at_call 32; refine (or3_any _ 0 0 0 _ ?_ ?_ ?_).mono ?_; (· simp); (· simp); (· simp); rintro e u4 ⟨rfl, rfl⟩)
        | (go_at_call 40; refine (kco _ _ _ ?_ ?_ ?_ ?_ ?_).mono ?_; (· simp); (· simp); (· simp); (exact S1.out.later (by (repeat (first | exact Q.refl _ | assumption | refine Q.alloc ?_ _ | refine Q.drew ?_ | refine Q.drewN ?_ _ | refine Q.trans ?_ (by assumption))))); (exact S2.out.later (by (repeat (first | exact Q.refl _ | assumption | refine Q.alloc ?_ _ | refine Q.drew ?_ | refine Q.drewN ?_ _ | refine Q.trans ?_ (by assumption))))); rintro e u5 ⟨v, rfl, ho, hq5⟩; have hqz : Q w u5 := (by (repeat (first | exact Q.refl _ | assumption | refine Q.alloc ?_ _ | refine Q.drew ?_ | refine Q.drewN ?_ _ | refine Q.trans ?_ (by assumption)))); obtain ⟨a5, c5, rfl, s5, d5, f5⟩ := own_all HL.out ho))
        go_quiet (fail)
        go_wp2_with (go_at_call 15; with_reducible refine (kk _ _ d5 _ ?_).mono ?_; (exact s5.later (by (repeat (first | exact Q.refl _ | assumption | refine Q.alloc ?_ _ | refine Q.drew ?_ | refine Q.drewN ?_ _ | refine Q.trans ?_ (by assumption))))); rintro e u6 ⟨v1, v2, rfl, ht, hq6⟩; have hqy : Q w u5.drew := (by (repeat (first | exact Q.refl _ | assumption | refine Q.alloc ?_ _ | refine Q.drew ?_ | refine Q.drewN ?_ _ | refine Q.trans ?_ (by assumption)))))
        exact bodyPost_ret (v := .tuple #[v1, .int .i64 (keepE p k (xs ++ ys))]) (by simp [results, Tryd.results26, go_sem]) rfl (JoinPost.ok hE.out ht (by (repeat (first | exact Q.refl _ | assumption | refine Q.alloc ?_ _ | refine Q.drew ?_ | refine Q.drewN ?_ _ | refine Q.trans ?_ (by assumption)))) (by (repeat (first | exact Q.refl _ | assumption | refine Q.alloc ?_ _ | refine Q.drew ?_ | refine Q.drewN ?_ _ | refine Q.trans ?_ (by assumption)))))
      · rcases Nat.eq_zero_or_pos n1 with rfl | q
        · clear s1 s2 e1 e2
          go_enter Tryd.func26, Tryd.ntmps26
          go_wp2_with (first
        | (go_at_call 19; refine (kc _).mono ?_; rintro e u1 ⟨rfl, hq1⟩)
        | (go_at_call 33; with_reducible refine (kx _ ?_).mono ?_; (exact S1.out.later (by (repeat (first | exact Q.refl _ | assumption | refine Q.alloc ?_ _ | refine Q.drew ?_ | refine Q.drewN ?_ _ | refine Q.trans ?_ (by assumption))))); rintro e u2 ⟨rfl, hq2⟩)
        | (go_at_call 33; with_reducible refine (ky _ ?_).mono ?_; (exact S2.out.later (by (repeat (first | exact Q.refl _ | assumption | refine Q.alloc ?_ _ | refine Q.drew ?_ | refine Q.drewN ?_ _ | refine Q.trans ?_ (by assumption))))); rintro e u3 ⟨rfl, hq3⟩)
        | (go_at_call 32; refine (or3_any _ 0 0 0 _ ?_ ?_ ?_).mono ?_; (· simp); (· simp); (· simp); rintro e u4 ⟨rfl, rfl⟩)
        | (go_at_call 40; refine (kco _ _ _ ?_ ?_ ?_ ?_ ?_).mono ?_; (· simp); (· simp); (· simp); (exact S1.out.later (by (repeat (first | exact Q.refl _ | assumption | refine Q.alloc ?_ _ | refine Q.drew ?_ | refine Q.drewN ?_ _ | refine Q.trans ?_ (by assumption))))); (exact S2.out.later (by (repeat (first | exact Q.refl _ | assumption | refine Q.alloc ?_ _ | refine Q.drew ?_ | refine Q.drewN ?_ _ | refine Q.trans ?_ (by assumption))))); rintro e u5 ⟨v, rfl, ho, hq5⟩; have hqz : Q w u5 := (by (repeat (first | exact Q.refl _ | assumption | refine Q.alloc ?_ _ | refine Q.drew ?_ | refine Q.drewN ?_ _ | refine Q.trans ?_ (by assumption)))); obtain ⟨a5, c5, rfl, s5, d5, f5⟩ := own_all HL.out ho))
          go_quiet (fail)
          go_wp2_with (go_at_call 15; with_reducible refine (kk _ _ d5 _ ?_).mono ?_; (exact s5.later (by (repeat (first | exact Q.refl _ | assumption | refine Q.alloc ?_ _ | refine Q.drew ?_ | refine Q.drewN ?_ _ | refine Q.trans ?_ (by assumption))))); rintro e u6 ⟨v1, v2, rfl, ht, hq6⟩; have hqy : Q w u5.drew := (by (repeat (first | exact Q.refl _ | assumption | refine Q.alloc ?_ _ | refine Q.drew ?_ | refine Q.drewN ?_ _ | refine Q.trans ?_ (by assumption)))))
          exact bodyPost_ret (v := .tuple #[v1, .int .i64 (keepE p k (xs ++ ys))]) (by simp [results, Tryd.results26, go_sem]) rfl (JoinPost.ok hE.out ht (by (repeat (first | exact Q.refl _ | assumption | refine Q.alloc ?_ _ | refine Q.drew ?_ | refine Q.drewN ?_ _ | refine Q.trans ?_ (by assumption)))) (by (repeat (first | exact Q.refl _ | assumption | refine Q.alloc ?_ _ | refine Q.drew ?_ | refine Q.drewN ?_ _ | refine Q.trans ?_ (by assumption)))))
        · have y1 : decide ((0 : Int) < (n1 : Int)) = true := by simp; omega
          clear s1 s2 e1 e2
          go_enter Tryd.func26, Tryd.ntmps26
          go_wp2_with (first
        | (go_at_call 19; refine (kc _).mono ?_; rintro e u1 ⟨rfl, hq1⟩)
        | (go_at_call 33; with_reducible refine (kx _ ?_).mono ?_; (exact S1.out.later (by (repeat (first | exact Q.refl _ | assumption | refine Q.alloc ?_ _ | refine Q.drew ?_ | refine Q.drewN ?_ _ | refine Q.trans ?_ (by assumption))))); rintro e u2 ⟨rfl, hq2⟩)
        | (go_at_call 33; with_reducible refine (ky _ ?_).mono ?_; (exact S2.out.later (by (repeat (first | exact Q.refl _ | assumption | refine Q.alloc ?_ _ | refine Q.drew ?_ | refine Q.drewN ?_ _ | refine Q.trans ?_ (by assumption))))); rintro e u3 ⟨rfl, hq3⟩)
        | (go_at_call 32; refine (or3_any _ 0 0 0 _ ?_ ?_ ?_).mono ?_; (· simp); (· simp); (· simp); rintro e u4 ⟨rfl, rfl⟩)
        | (go_at_call 40; refine (kco _ _ _ ?_ ?_ ?_ ?_ ?_).mono ?_; (· simp); (· simp); (· simp); (exact S1.out.later (by (repeat (first | exact Q.refl _ | assumption | refine Q.alloc ?_ _ | refine Q.drew ?_ | refine Q.drewN ?_ _ | refine Q.trans ?_ (by assumption))))); (exact S2.out.later (by (repeat (first | exact Q.refl _ | assumption | refine Q.alloc ?_ _ | refine Q.drew ?_ | refine Q.drewN ?_ _ | refine Q.trans ?_ (by assumption))))); rintro e u5 ⟨v, rfl, ho, hq5⟩; have hqz : Q w u5 := (by (repeat (first | exact Q.refl _ | assumption | refine Q.alloc ?_ _ | refine Q.drew ?_ | refine Q.drewN ?_ _ | refine Q.trans ?_ (by assumption)))); obtain ⟨a5, c5, rfl, s5, d5, f5⟩ := own_all HL.out ho))
          go_quiet (fail)
          go_wp2_with (go_at_call 15; with_reducible refine (kk _ _ d5 _ ?_).mono ?_; (exact s5.later (by (repeat (first | exact Q.refl _ | assumption | refine Q.alloc ?_ _ | refine Q.drew ?_ | refine Q.drewN ?_ _ | refine Q.trans ?_ (by assumption))))); rintro e u6 ⟨v1, v2, rfl, ht, hq6⟩; have hqy : Q w u5.drew := (by (repeat (first | exact Q.refl _ | assumption | refine Q.alloc ?_ _ | refine Q.drew ?_ | refine Q.drewN ?_ _ | refine Q.trans ?_ (by assumption)))))
          exact bodyPost_ret (v := .tuple #[v1, .int .i64 (keepE p k (xs ++ ys))]) (by simp [results, Tryd.results26, go_sem]) rfl (JoinPost.ok hE.out ht (by (repeat (first | exact Q.refl _ | assumption | refine Q.alloc ?_ _ | refine Q.drew ?_ | refine Q.drewN ?_ _ | refine Q.trans ?_ (by assumption)))) (by (repeat (first | exact Q.refl _ | assumption | refine Q.alloc ?_ _ | refine Q.drew ?_ | refine Q.drewN ?_ _ | refine Q.trans ?_ (by assumption)))))
      · rcases s1 with s1 | ⟨b1, o1, rfl, hl1, r1⟩
        · omega
        rcases s2 with s2 | ⟨b2, o2, rfl, hl2, r2⟩
        · omega
        have v1 := r1 (n1 - 1) (by omega)
        have v2 := r2 0 (by omega)
        rw [Nat.add_zero] at v2
        obtain ⟨x, hx⟩ : ∃ x, xs.getD (n1 - 1) 0 = x := ⟨_, rfl⟩
        obtain ⟨y, hy⟩ : ∃ x, ys.getD 0 0 = x := ⟨_, rfl⟩
        rw [hx] at v1 q3
        rw [hy] at v2 q3
        have y1 : decide ((0 : Int) < (n1 : Int)) = true := by simp; omega
        have y2 : decide ((0 : Int) < (n2 : Int)) = true := by simp; omega
        have y3 : ((n1 : Int) - 1).toNat = n1 - 1 := by omega
        have y4 : (0 : Int) ≤ (n1 : Int) - 1 ∧ (n1 : Int) - 1 < (n1 : Int) := by omega
        have y5 : decide (y ≤ x) = false := by simp; omega
        clear r1 r2 hx hy e1 e2
        go_enter Tryd.func26, Tryd.ntmps26
        go_wp2_with (first
        | (go_at_call 19; refine (kc _).mono ?_; rintro e u1 ⟨rfl, hq1⟩)
        | (go_at_call 33; with_reducible refine (kx _ ?_).mono ?_; (exact S1.out.later (by (repeat (first | exact Q.refl _ | assumption | refine Q.alloc ?_ _ | refine Q.drew ?_ | refine Q.drewN ?_ _ | refine Q.trans ?_ (by assumption))))); rintro e u2 ⟨rfl, hq2⟩)
        | (go_at_call 33; with_reducible refine (ky _ ?_).mono ?_; (exact S2.out.later (by (repeat (first | exact Q.refl _ | assumption | refine Q.alloc ?_ _ | refine Q.drew ?_ | refine Q.drewN ?_ _ | refine Q.trans ?_ (by assumption))))); rintro e u3 ⟨rfl, hq3⟩)
        | (go_at_call 32; refine (or3_any _ 0 0 0 _ ?_ ?_ ?_).mono ?_; (· simp); (· simp); (· simp); rintro e u4 ⟨rfl, rfl⟩)
        | (go_at_call 40; refine (kco _ _ _ ?_ ?_ ?_ ?_ ?_).mono ?_; (· simp); (· simp); (· simp); (exact S1.out.later (by (repeat (first | exact Q.refl _ | assumption | refine Q.alloc ?_ _ | refine Q.drew ?_ | refine Q.drewN ?_ _ | refine Q.trans ?_ (by assumption))))); (exact S2.out.later (by (repeat (first | exact Q.refl _ | assumption | refine Q.alloc ?_ _ | refine Q.drew ?_ | refine Q.drewN ?_ _ | refine Q.trans ?_ (by assumption))))); rintro e u5 ⟨v, rfl, ho, hq5⟩; have hqz : Q w u5 := (by (repeat (first | exact Q.refl _ | assumption | refine Q.alloc ?_ _ | refine Q.drew ?_ | refine Q.drewN ?_ _ | refine Q.trans ?_ (by assumption)))); have v1' := (hqz.cell (p := ⟨b1, o1 + (n1 - 1), none⟩) hl1).trans v1; have v2' := (hqz.cell (p := ⟨b2, o2, none⟩) hl2).trans v2; obtain ⟨a5, c5, rfl, s5, d5, f5⟩ := own_all HL.out ho))
        go_quiet (fail)
        go_wp2_with (go_at_call 15; with_reducible refine (kk _ _ d5 _ ?_).mono ?_; (exact s5.later (by (repeat (first | exact Q.refl _ | assumption | refine Q.alloc ?_ _ | refine Q.drew ?_ | refine Q.drewN ?_ _ | refine Q.trans ?_ (by assumption))))); rintro e u6 ⟨v1, v2, rfl, ht, hq6⟩; have hqy : Q w u5.drew := (by (repeat (first | exact Q.refl _ | assumption | refine Q.alloc ?_ _ | refine Q.drew ?_ | refine Q.drewN ?_ _ | refine Q.trans ?_ (by assumption)))))
        exact bodyPost_ret (v := .tuple #[v1, .int .i64 (keepE p k (xs ++ ys))]) (by simp [results, Tryd.results26, go_sem]) rfl (JoinPost.ok hE.out ht (by (repeat (first | exact Q.refl _ | assumption | refine Q.alloc ?_ _ | refine Q.drew ?_ | refine Q.drewN ?_ _ | refine Q.trans ?_ (by assumption)))) (by (repeat (first | exact Q.refl _ | assumption | refine Q.alloc ?_ _ | refine Q.drew ?_ | refine Q.drewN ?_ _ | refine Q.trans ?_ (by assumption)))))
  · have hE := Lib.hid (joinE_bad h0)
    generalize hx : Mf.chkE p k = x at *
    generalize hy : Mf.listE xs = y at *
    generalize hz : Mf.listE ys = z at *
    have y1 : (Mf.or3 x y z != 0) = true := bne_t h0
    have H0 := Lib.hid h0
    clear s1 s2 e1 e2 hx hy hz h0
    go_enter Tryd.func26, Tryd.ntmps26
    go_wp2_with (first
      | (go_at_call 19; refine (kc _).mono ?_; rintro e u1 ⟨rfl, hq1⟩)
      | (go_at_call 33; with_reducible refine (kx _ ?_).mono ?_; (exact S1.out.later (by (repeat (first | exact Q.refl _ | assumption | refine Q.alloc ?_ _ | refine Q.drew ?_ | refine Q.drewN ?_ _ | refine Q.trans ?_ (by assumption))))); rintro e u2 ⟨rfl, hq2⟩)
      | (go_at_call 33; with_reducible refine (ky _ ?_).mono ?_; (exact S2.out.later (by (repeat (first | exact Q.refl _ | assumption | refine Q.alloc ?_ _ | refine Q.drew ?_ | refine Q.drewN ?_ _ | refine Q.trans ?_ (by assumption))))); rintro e u3 ⟨rfl, hq3⟩)
      | (go_at_call 32; refine (or3_any _ x y z _ ?_ ?_ ?_).mono ?_; (· simp); (· simp); (· simp); rintro e u4 ⟨rfl, rfl⟩))
    exact bodyPost_ret (v := .tuple #[.slice none 0 0, .int .i64 (Mf.or3 x y z)]) (by simp [results, Tryd.results26, go_sem]) rfl (JoinPost.err hE.out H0.out (by (repeat (first | exact Q.refl _ | assumption | refine Q.alloc ?_ _ | refine Q.drew ?_ | refine Q.drewN ?_ _ | refine Q.trans ?_ (by assumption)))))
end Go.Proofs.YtadfdkhgjjehnaaDoor
