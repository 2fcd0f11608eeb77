/- The contract of the document's Join. -/
import Derived.Test.YtadfdkhgjjehnaaDoorMisN
namespace Go.Proofs.YtadfdkhgjjehnaaDoor
open Go.RowKit
set_option linter.unusedVariables false
set_option linter.unusedSimpArgs false
set_option maxRecDepth 20000 in
set_option maxHeartbeats 1000000 in
theorem rjoin_any (p k : Int) (a1 a2 : Option Addr) (n1 n2 c1 c2 : Nat) (xs ys : List Int) (e1 : xs.length = n1) (e2 : ys.length = n2) (h1 : n1 ≤ 100000000) (h2 : n2 ≤ 100000000) (z1 : a1 = none → c1 = 0) (z2 : a2 = none → c2 = 0) (w : World) (s1 : Sl a1 xs w) (s2 : Sl a2 ys w) :
    Calls Tryd.prog 27 #[.int .i64 p, .int .i64 k, .slice a1 n1 c1, .slice a2 n2 c2] w (JoinPost p k xs ys w) := by
  have hg1 : goInt n1 = .int .i64 n1 := by simp [goInt]
  have hg2 : goInt n2 = .int .i64 n2 := by simp [goInt]
  have kc := fun w2 => callsQ (rcheck_any p k w2)
  have kx := fun w2 (g : Sl a1 xs w2) => rlist_any a1 xs n1 c1 e1 (by omega) w2 g
  have ky := fun w2 (g : Sl a2 ys w2) => rlist_any a2 ys n2 c2 e2 (by omega) w2 g
  have S1 := Lib.hid s1; have S2 := Lib.hid s2
  have E1 := Lib.hid e1; have E2 := Lib.hid e2
  by_cases h0 : Mf.or3 (Mf.chkE p k) (Mf.listE xs) (Mf.listE ys) = 0
  · obtain ⟨x0, yy0, zz0⟩ := or3_zero h0
    rw [x0] at kc
    rw [yy0] at kx
    rw [zz0] at ky
    have y0 : (Mf.or3 0 0 0 != 0) = false := by decide
    have kk := fun a c w2 h => rkeep_any p k a (xs ++ ys) (n1 + n2) c (by rw [List.length_append, e1, e2]) (by omega) w2 h
    unfold KeepPost at kk
    obtain ⟨N, hN⟩ : ∃ N, n1 + n2 = N := ⟨_, rfl⟩
    have HL : Hid ((xs ++ ys).length = N) := Lib.hid (by rw [List.length_append, e1, e2, hN])
    simp only [hN] at kk
    have HN2 := Lib.hid hN
    clear hN
    by_cases hc : crs xs ys
    · have hE := Lib.hid (joinE_crs h0 hc)
      obtain ⟨q1, q2, q3⟩ := hc
      rw [e1] at q1
      rw [e2] at q2
      rw [e1] at q3
      rcases s1 with s1 | ⟨b1, o1, rfl, hl1, r1⟩
      · omega
      rcases s2 with s2 | ⟨b2, o2, rfl, hl2, r2⟩
      · omega
      have v1 := r1 (n1 - 1) (by omega)
      have v2 := r2 0 (by omega)
      rw [Nat.add_zero] at v2
      obtain ⟨x, hx⟩ : ∃ x, xs.getD (n1 - 1) 0 = x := ⟨_, rfl⟩
      obtain ⟨y, hy⟩ : ∃ x, ys.getD 0 0 = x := ⟨_, rfl⟩
      rw [hx] at v1 q3
      rw [hy] at v2 q3
      have y1 : decide ((0 : Int) < (n1 : Int)) = true := by simp; omega
      have y2 : decide ((0 : Int) < (n2 : Int)) = true := by simp; omega
      have y3 : ((n1 : Int) - 1).toNat = n1 - 1 := by omega
      have y4 : (0 : Int) ≤ (n1 : Int) - 1 ∧ (n1 : Int) - 1 < (n1 : Int) := by omega
      have y5 : decide (y ≤ x) = true := by simp; omega
      clear r1 r2 hx hy h0 e1 e2 x0 yy0 zz0 kk
      go_enter Tryd.func27, Tryd.ntmps27
      go_wp2_with (first
        | (go_at_call 20; refine (kc _).mono ?_; rintro e u1 ⟨rfl, hq1⟩)
        | (go_at_call 35; with_reducible refine (kx _ ?_).mono ?_; (exact S1.out.later (by (repeat (first | exact Q.refl _ | assumption | refine Q.alloc ?_ _ | refine Q.drew ?_ | refine Q.drewN ?_ _ | refine Q.trans ?_ (by assumption))))); rintro e u2 ⟨rfl, hq2⟩)
        | (go_at_call 35; with_reducible refine (ky _ ?_).mono ?_; (exact S2.out.later (by (repeat (first | exact Q.refl _ | assumption | refine Q.alloc ?_ _ | refine Q.drew ?_ | refine Q.drewN ?_ _ | refine Q.trans ?_ (by assumption))))); rintro e u3 ⟨rfl, hq3⟩; have hqz : Q w u3 := (by (repeat (first | exact Q.refl _ | assumption | refine Q.alloc ?_ _ | refine Q.drew ?_ | refine Q.drewN ?_ _ | refine Q.trans ?_ (by assumption)))); have v1' := (hqz.cell (p := ⟨b1, o1 + (n1 - 1), none⟩) hl1).trans v1; have v2' := (hqz.cell (p := ⟨b2, o2, none⟩) hl2).trans v2))
      go_quiet (fail)
      go_wp2_with fail
      exact bodyPost_ret (v := .tuple #[.slice none 0 0, .int .i64 8]) (by simp [results, Tryd.results27, go_sem]) rfl (JoinPost.err hE.out (by decide) (by (repeat (first | exact Q.refl _ | assumption | refine Q.alloc ?_ _ | refine Q.drew ?_ | refine Q.drewN ?_ _ | refine Q.trans ?_ (by assumption)))))
    · have hE := Lib.hid (joinE_ok h0 hc)
      have hcn : n1 = 0 ∨ n2 = 0 ∨ (0 < n1 ∧ 0 < n2 ∧ ¬ ys.getD 0 0 ≤ xs.getD (n1 - 1) 0) := by
        rcases Nat.eq_zero_or_pos n1 with q | q
        · exact Or.inl q
        · rcases Nat.eq_zero_or_pos n2 with r | r
          · exact Or.inr (Or.inl r)
          · exact Or.inr (Or.inr ⟨q, r, fun t => hc ⟨by omega, by omega, by rw [e1]; exact t⟩⟩)
      clear h0 x0 yy0 zz0 hc
      rcases hcn with rfl | rfl | ⟨q1, q2, q3⟩
      · clear s1 s2 e1 e2
        go_enter Tryd.func27, Tryd.ntmps27
        go_wp2_with (first
        | (go_at_call 20; refine (kc _).mono ?_; rintro e u1 ⟨rfl, hq1⟩)
        | (go_at_call 35; with_reducible refine (kx _ ?_).mono ?_; (exact S1.out.later (by (repeat (first | exact Q.refl _ | assumption | refine Q.alloc ?_ _ | refine Q.drew ?_ | refine Q.drewN ?_ _ | refine Q.trans ?_ (by assumption))))); rintro e u2 ⟨rfl, hq2⟩)
        | (go_at_call 35; with_reducible refine (ky _ ?_).mono ?_; (exact S2.out.later (by (repeat (first | exact Q.refl _ | assumption | refine Q.alloc ?_ _ | refine Q.drew ?_ | refine Q.drewN ?_ _ | refine Q.trans ?_ (by assumption))))); rintro e u3 ⟨rfl, hq3⟩; have hqz : Q w u3 := (by (repeat (first | exact Q.refl _ | assumption | refine Q.alloc ?_ _ | refine Q.drew ?_ | refine Q.drewN ?_ _ | refine Q.trans ?_ (by assumption))))))
        go_quiet (fail)
        obtain ⟨u4, hu4⟩ : ∃ u4, u4 = u3.drewN nq := ⟨_, rfl⟩
        rw [← hu4]
        have hq4 : Q u3 u4 := by rw [hu4]; exact (Q.refl _).drewN _
        clear hu4
        go_wp2_with (first
          | (at_builtin; refine wpList_app (by rfl) (.tmp 54) (.tmp 55) rfl u4.heap.size _ 0 [] rfl (World.ownsRow_made u4 #[] 0 (Nat.le_refl _) (by unfold maxLen; omega) rfl) a1 0 c1 xs rfl E1.out (S1.out.later (by (repeat (first | exact Q.refl _ | assumption | refine Q.alloc ?_ _ | refine Q.drew ?_ | refine Q.drewN ?_ _ | refine Q.trans ?_ (by assumption))))) z1 (by omega) (by omega) (by simp) ?_; intro v5 w5 ho5 hg5; have hq5 := own_q hg5 (World.ownsRow_made u4 #[] 0 (Nat.le_refl _) (by unfold maxLen; omega) rfl) (((Q.refl u4).alloc _)); rw [List.nil_append, Nat.zero_add] at ho5; obtain ⟨a5, c5, rfl⟩ := own_form ho5; clear hg5)
          | (at_builtin; refine wpList_app (by rfl) (.tmp 56) (.tmp 57) rfl u4.heap.size _ 0 xs rfl ho5 a2 n2 c2 ys rfl E2.out (S2.out.later (by (repeat (first | exact Q.refl _ | assumption | refine Q.alloc ?_ _ | refine Q.drew ?_ | refine Q.drewN ?_ _ | refine Q.trans ?_ (by assumption))))) z2 (by omega) (by omega) (hq5.size) ?_; intro v6 w6 ho6 hg6; have hq6 := own_q hg6 ho5 hq5; rw [HN2.out] at ho6; obtain ⟨a6, c6, rfl, s6, d6, f6⟩ := own_all HL.out ho6; clear hg6)
          | (go_at_call 16; with_reducible refine (kk _ _ _ s6).mono ?_; rintro e u6 ⟨v1, v2, rfl, ht, hq7⟩))
        exact bodyPost_ret (v := .tuple #[v1, .int .i64 (keepE p k (xs ++ ys))]) (by simp [results, Tryd.results27, go_sem]) rfl (JoinPost.ok hE.out ht (by (repeat (first | exact Q.refl _ | assumption | refine Q.alloc ?_ _ | refine Q.drew ?_ | refine Q.drewN ?_ _ | refine Q.trans ?_ (by assumption)))) hq7)
      · rcases Nat.eq_zero_or_pos n1 with rfl | q
        · clear s1 s2 e1 e2
          go_enter Tryd.func27, Tryd.ntmps27
          go_wp2_with (first
        | (go_at_call 20; refine (kc _).mono ?_; rintro e u1 ⟨rfl, hq1⟩)
        | (go_at_call 35; with_reducible refine (kx _ ?_).mono ?_; (exact S1.out.later (by (repeat (first | exact Q.refl _ | assumption | refine Q.alloc ?_ _ | refine Q.drew ?_ | refine Q.drewN ?_ _ | refine Q.trans ?_ (by assumption))))); rintro e u2 ⟨rfl, hq2⟩)
        | (go_at_call 35; with_reducible refine (ky _ ?_).mono ?_; (exact S2.out.later (by (repeat (first | exact Q.refl _ | assumption | refine Q.alloc ?_ _ | refine Q.drew ?_ | refine Q.drewN ?_ _ | refine Q.trans ?_ (by assumption))))); rintro e u3 ⟨rfl, hq3⟩; have hqz : Q w u3 := (by (repeat (first | exact Q.refl _ | assumption | refine Q.alloc ?_ _ | refine Q.drew ?_ | refine Q.drewN ?_ _ | refine Q.trans ?_ (by assumption))))))
          go_quiet (fail)
          obtain ⟨u4, hu4⟩ : ∃ u4, u4 = u3.drewN nq := ⟨_, rfl⟩
          rw [← hu4]
          have hq4 : Q u3 u4 := by rw [hu4]; exact (Q.refl _).drewN _
          clear hu4
          go_wp2_with (first
            | (at_builtin; refine wpList_app (by rfl) (.tmp 54) (.tmp 55) rfl u4.heap.size _ 0 [] rfl (World.ownsRow_made u4 #[] 0 (Nat.le_refl _) (by unfold maxLen; omega) rfl) a1 0 c1 xs rfl E1.out (S1.out.later (by (repeat (first | exact Q.refl _ | assumption | refine Q.alloc ?_ _ | refine Q.drew ?_ | refine Q.drewN ?_ _ | refine Q.trans ?_ (by assumption))))) z1 (by omega) (by omega) (by simp) ?_; intro v5 w5 ho5 hg5; have hq5 := own_q hg5 (World.ownsRow_made u4 #[] 0 (Nat.le_refl _) (by unfold maxLen; omega) rfl) (((Q.refl u4).alloc _)); rw [List.nil_append, Nat.zero_add] at ho5; obtain ⟨a5, c5, rfl⟩ := own_form ho5; clear hg5)
            | (at_builtin; refine wpList_app (by rfl) (.tmp 56) (.tmp 57) rfl u4.heap.size _ 0 xs rfl ho5 a2 0 c2 ys rfl E2.out (S2.out.later (by (repeat (first | exact Q.refl _ | assumption | refine Q.alloc ?_ _ | refine Q.drew ?_ | refine Q.drewN ?_ _ | refine Q.trans ?_ (by assumption))))) z2 (by omega) (by omega) (hq5.size) ?_; intro v6 w6 ho6 hg6; have hq6 := own_q hg6 ho5 hq5; rw [HN2.out] at ho6; obtain ⟨a6, c6, rfl, s6, d6, f6⟩ := own_all HL.out ho6; clear hg6)
            | (go_at_call 16; with_reducible refine (kk _ _ _ s6).mono ?_; rintro e u6 ⟨v1, v2, rfl, ht, hq7⟩))
          exact bodyPost_ret (v := .tuple #[v1, .int .i64 (keepE p k (xs ++ ys))]) (by simp [results, Tryd.results27, go_sem]) rfl (JoinPost.ok hE.out ht (by (repeat (first | exact Q.refl _ | assumption | refine Q.alloc ?_ _ | refine Q.drew ?_ | refine Q.drewN ?_ _ | refine Q.trans ?_ (by assumption)))) hq7)
        · have y1 : decide ((0 : Int) < (n1 : Int)) = true := by simp; omega
          clear s1 s2 e1 e2
          go_enter Tryd.func27, Tryd.ntmps27
          go_wp2_with (first
        | (go_at_call 20; refine (kc _).mono ?_; rintro e u1 ⟨rfl, hq1⟩)
        | (go_at_call 35; with_reducible refine (kx _ ?_).mono ?_; (exact S1.out.later (by (repeat (first | exact Q.refl _ | assumption | refine Q.alloc ?_ _ | refine Q.drew ?_ | refine Q.drewN ?_ _ | refine Q.trans ?_ (by assumption))))); rintro e u2 ⟨rfl, hq2⟩)
        | (go_at_call 35; with_reducible refine (ky _ ?_).mono ?_; (exact S2.out.later (by (repeat (first | exact Q.refl _ | assumption | refine Q.alloc ?_ _ | refine Q.drew ?_ | refine Q.drewN ?_ _ | refine Q.trans ?_ (by assumption))))); rintro e u3 ⟨rfl, hq3⟩; have hqz : Q w u3 := (by (repeat (first | exact Q.refl _ | assumption | refine Q.alloc ?_ _ | refine Q.drew ?_ | refine Q.drewN ?_ _ | refine Q.trans ?_ (by assumption))))))
          go_quiet (fail)
          obtain ⟨u4, hu4⟩ : ∃ u4, u4 = u3.drewN nq := ⟨_, rfl⟩
          rw [← hu4]
          have hq4 : Q u3 u4 := by rw [hu4]; exact (Q.refl _).drewN _
          clear hu4
          go_wp2_with (first
            | (at_builtin; refine wpList_app (by rfl) (.tmp 54) (.tmp 55) rfl u4.heap.size _ 0 [] rfl (World.ownsRow_made u4 #[] 0 (Nat.le_refl _) (by unfold maxLen; omega) rfl) a1 n1 c1 xs rfl E1.out (S1.out.later (by (repeat (first | exact Q.refl _ | assumption | refine Q.alloc ?_ _ | refine Q.drew ?_ | refine Q.drewN ?_ _ | refine Q.trans ?_ (by assumption))))) z1 (by omega) (by omega) (by simp) ?_; intro v5 w5 ho5 hg5; have hq5 := own_q hg5 (World.ownsRow_made u4 #[] 0 (Nat.le_refl _) (by unfold maxLen; omega) rfl) (((Q.refl u4).alloc _)); rw [List.nil_append, Nat.zero_add] at ho5; obtain ⟨a5, c5, rfl⟩ := own_form ho5; clear hg5)
            | (at_builtin; refine wpList_app (by rfl) (.tmp 56) (.tmp 57) rfl u4.heap.size _ n1 xs rfl ho5 a2 0 c2 ys rfl E2.out (S2.out.later (by (repeat (first | exact Q.refl _ | assumption | refine Q.alloc ?_ _ | refine Q.drew ?_ | refine Q.drewN ?_ _ | refine Q.trans ?_ (by assumption))))) z2 (by omega) (by omega) (hq5.size) ?_; intro v6 w6 ho6 hg6; have hq6 := own_q hg6 ho5 hq5; rw [HN2.out] at ho6; obtain ⟨a6, c6, rfl, s6, d6, f6⟩ := own_all HL.out ho6; clear hg6)
            | (go_at_call 16; with_reducible refine (kk _ _ _ s6).mono ?_; rintro e u6 ⟨v1, v2, rfl, ht, hq7⟩))
          exact bodyPost_ret (v := .tuple #[v1, .int .i64 (keepE p k (xs ++ ys))]) (by simp [results, Tryd.results27, go_sem]) rfl (JoinPost.ok hE.out ht (by (repeat (first | exact Q.refl _ | assumption | refine Q.alloc ?_ _ | refine Q.drew ?_ | refine Q.drewN ?_ _ | refine Q.trans ?_ (by assumption)))) hq7)
      · rcases s1 with s1 | ⟨b1, o1, rfl, hl1, r1⟩
        · omega
        rcases s2 with s2 | ⟨b2, o2, rfl, hl2, r2⟩
        · omega
        have v1 := r1 (n1 - 1) (by omega)
        have v2 := r2 0 (by omega)
        rw [Nat.add_zero] at v2
        obtain ⟨x, hx⟩ : ∃ x, xs.getD (n1 - 1) 0 = x := ⟨_, rfl⟩
        obtain ⟨y, hy⟩ : ∃ x, ys.getD 0 0 = x := ⟨_, rfl⟩
        rw [hx] at v1 q3
        rw [hy] at v2 q3
        have y1 : decide ((0 : Int) < (n1 : Int)) = true := by simp; omega
        have y2 : decide ((0 : Int) < (n2 : Int)) = true := by simp; omega
        have y3 : ((n1 : Int) - 1).toNat = n1 - 1 := by omega
        have y4 : (0 : Int) ≤ (n1 : Int) - 1 ∧ (n1 : Int) - 1 < (n1 : Int) := by omega
        have y5 : decide (y ≤ x) = false := by simp; omega
        clear r1 r2 hx hy e1 e2
        go_enter Tryd.func27, Tryd.ntmps27
        go_wp2_with (first
        | (go_at_call 20; refine (kc _).mono ?_; rintro e u1 ⟨rfl, hq1⟩)
        | (go_at_call 35; with_reducible refine (kx _ ?_).mono ?_; (exact S1.out.later (by (repeat (first | exact Q.refl _ | assumption | refine Q.alloc ?_ _ | refine Q.drew ?_ | refine Q.drewN ?_ _ | refine Q.trans ?_ (by assumption))))); rintro e u2 ⟨rfl, hq2⟩)
        | (go_at_call 35; with_reducible refine (ky _ ?_).mono ?_; (exact S2.out.later (by (repeat (first | exact Q.refl _ | assumption | refine Q.alloc ?_ _ | refine Q.drew ?_ | refine Q.drewN ?_ _ | refine Q.trans ?_ (by assumption))))); rintro e u3 ⟨rfl, hq3⟩; have hqz : Q w u3 := (by (repeat (first | exact Q.refl _ | assumption | refine Q.alloc ?_ _ | refine Q.drew ?_ | refine Q.drewN ?_ _ | refine Q.trans ?_ (by assumption)))); have v1' := (hqz.cell (p := ⟨b1, o1 + (n1 - 1), none⟩) hl1).trans v1; have v2' := (hqz.cell (p := ⟨b2, o2, none⟩) hl2).trans v2))
        go_quiet (fail)
        obtain ⟨u4, hu4⟩ : ∃ u4, u4 = u3.drewN nq := ⟨_, rfl⟩
        rw [← hu4]
        have hq4 : Q u3 u4 := by rw [hu4]; exact (Q.refl _).drewN _
        clear hu4
        go_wp2_with (first
          | (at_builtin; refine wpList_app (by rfl) (.tmp 54) (.tmp 55) rfl u4.heap.size _ 0 [] rfl (World.ownsRow_made u4 #[] 0 (Nat.le_refl _) (by unfold maxLen; omega) rfl) (some ⟨b1, o1, none⟩) n1 c1 xs rfl E1.out (S1.out.later (by (repeat (first | exact Q.refl _ | assumption | refine Q.alloc ?_ _ | refine Q.drew ?_ | refine Q.drewN ?_ _ | refine Q.trans ?_ (by assumption))))) z1 (by omega) (by omega) (by simp) ?_; intro v5 w5 ho5 hg5; have hq5 := own_q hg5 (World.ownsRow_made u4 #[] 0 (Nat.le_refl _) (by unfold maxLen; omega) rfl) (((Q.refl u4).alloc _)); rw [List.nil_append, Nat.zero_add] at ho5; obtain ⟨a5, c5, rfl⟩ := own_form ho5; clear hg5)
          | (at_builtin; refine wpList_app (by rfl) (.tmp 56) (.tmp 57) rfl u4.heap.size _ n1 xs rfl ho5 (some ⟨b2, o2, none⟩) n2 c2 ys rfl E2.out (S2.out.later (by (repeat (first | exact Q.refl _ | assumption | refine Q.alloc ?_ _ | refine Q.drew ?_ | refine Q.drewN ?_ _ | refine Q.trans ?_ (by assumption))))) z2 (by omega) (by omega) (hq5.size) ?_; intro v6 w6 ho6 hg6; have hq6 := own_q hg6 ho5 hq5; rw [HN2.out] at ho6; obtain ⟨a6, c6, rfl, s6, d6, f6⟩ := own_all HL.out ho6; clear hg6)
          | (go_at_call 16; with_reducible refine (kk _ _ _ s6).mono ?_; rintro e u6 ⟨v1, v2, rfl, ht, hq7⟩))
        exact bodyPost_ret (v := .tuple #[v1, .int .i64 (keepE p k (xs ++ ys))]) (by simp [results, Tryd.results27, go_sem]) rfl (JoinPost.ok hE.out ht (by (repeat (first | exact Q.refl _ | assumption | refine Q.alloc ?_ _ | refine Q.drew ?_ | refine Q.drewN ?_ _ | refine Q.trans ?_ (by assumption)))) hq7)
  · have hE := Lib.hid (joinE_bad h0)
    generalize hx : Mf.chkE p k = x at *
    generalize hy : Mf.listE xs = y at *
    generalize hz : Mf.listE ys = z at *
    clear s1 s2 e1 e2 hx hy hz
    by_cases gx : x = 0
    · subst gx
      by_cases gy : y = 0
      · subst gy
        have gz : z ≠ 0 := h0
        rw [show Mf.or3 0 0 z = z from rfl] at hE
        have y1 : (z == 0) = false := beq_f gz
        have y2 : (z != 0) = true := bne_t gz
        clear h0
        go_enter Tryd.func27, Tryd.ntmps27
        go_wp2_with (first
          | (go_at_call 20; refine (kc _).mono ?_; rintro e u1 ⟨rfl, hq1⟩)
          | (go_at_call 35; with_reducible refine (kx _ ?_).mono ?_; (exact S1.out.later (by (repeat (first | exact Q.refl _ | assumption | refine Q.alloc ?_ _ | refine Q.drew ?_ | refine Q.drewN ?_ _ | refine Q.trans ?_ (by assumption))))); rintro e u2 ⟨rfl, hq2⟩)
          | (go_at_call 35; with_reducible refine (ky _ ?_).mono ?_; (exact S2.out.later (by (repeat (first | exact Q.refl _ | assumption | refine Q.alloc ?_ _ | refine Q.drew ?_ | refine Q.drewN ?_ _ | refine Q.trans ?_ (by assumption))))); rintro e u3 ⟨rfl, hq3⟩))
        go_quiet (fail)
        go_wp2_with fail
        exact bodyPost_ret (v := .tuple #[.slice none 0 0, .int .i64 z]) (by simp [results, Tryd.results27, go_sem]) rfl (JoinPost.err hE.out gz (by (repeat (first | exact Q.refl _ | assumption | refine Q.alloc ?_ _ | refine Q.drew ?_ | refine Q.drewN ?_ _ | refine Q.trans ?_ (by assumption)))))
      · rw [show Mf.or3 0 y z = y from by unfold Mf.or3; rw [if_pos rfl, if_neg gy]] at hE
        have y1 : (y == 0) = false := beq_f gy
        have y2 : (y != 0) = true := bne_t gy
        clear h0
        go_enter Tryd.func27, Tryd.ntmps27
        go_wp2_with (first
          | (go_at_call 20; refine (kc _).mono ?_; rintro e u1 ⟨rfl, hq1⟩)
          | (go_at_call 35; with_reducible refine (kx _ ?_).mono ?_; (exact S1.out.later (by (repeat (first | exact Q.refl _ | assumption | refine Q.alloc ?_ _ | refine Q.drew ?_ | refine Q.drewN ?_ _ | refine Q.trans ?_ (by assumption))))); rintro e u2 ⟨rfl, hq2⟩))
        go_quiet (fail)
        go_wp2_with fail
        exact bodyPost_ret (v := .tuple #[.slice none 0 0, .int .i64 y]) (by simp [results, Tryd.results27, go_sem]) rfl (JoinPost.err hE.out gy (by (repeat (first | exact Q.refl _ | assumption | refine Q.alloc ?_ _ | refine Q.drew ?_ | refine Q.drewN ?_ _ | refine Q.trans ?_ (by assumption)))))
    · rw [show Mf.or3 x y z = x from by unfold Mf.or3; rw [if_neg gx]] at hE
      have y1 : (x == 0) = false := beq_f gx
      have y2 : (x != 0) = true := bne_t gx
      clear h0
      go_enter Tryd.func27, Tryd.ntmps27
      go_wp2_with (first
        | (go_at_call 20; refine (kc _).mono ?_; rintro e u1 ⟨rfl, hq1⟩))
      go_quiet (fail)
      go_wp2_with fail
      exact bodyPost_ret (v := .tuple #[.slice none 0 0, .int .i64 x]) (by simp [results, Tryd.results27, go_sem]) rfl (JoinPost.err hE.out gx (by (repeat (first | exact Q.refl _ | assumption | refine Q.alloc ?_ _ | refine Q.drew ?_ | refine Q.drewN ?_ _ | refine Q.trans ?_ (by assumption)))))
end Go.Proofs.YtadfdkhgjjehnaaDoor
