/- The contracts of merged and Order. -/
import Derived.Test.YtadfdkhgjjehnaaDoorMisE
import Derived.Test.YtadfdkhgjjehnaaDoorMisF
import Derived.Test.YtadfdkhgjjehnaaDoorOrdp
namespace Go.Proofs.YtadfdkhgjjehnaaDoor
open Go.RowKit Go.Shelf
set_option linter.unusedVariables false
set_option linter.unusedSimpArgs false
/-- a slice of slices of int64 -/
def Lm (a : Option Addr) (L : List (List Int)) (w : World) : Prop := L.length = 0 ∨ ∃ b off ad cp, a = some ⟨b, off, none⟩ ∧ LmB w.heap.size b off ad cp L w
theorem SlB.more {n m : Nat} {a : Option Addr} {xs : List Int} {w : World} (h : SlB n a xs w) (k : n ≤ m) : SlB m a xs w := by
  rcases h with h | ⟨b, off, rfl, hb, hc⟩
  · exact Or.inl h
  · exact Or.inr ⟨b, off, rfl, by omega, hc⟩
theorem LmB.more {n m b off : Nat} {ad : Nat → Option Addr} {cp : Nat → Nat} {L : List (List Int)} {w : World} (h : LmB n b off ad cp L w) (k : n ≤ m) : LmB m b off ad cp L w :=
  ⟨by have := h.1; omega, fun i hi => ⟨(h.2 i hi).1, (h.2 i hi).2.more k⟩⟩
theorem Lm.later {a : Option Addr} {L : List (List Int)} {w w' : World} (h : Lm a L w) (q : Q w w') : Lm a L w' := by
  rcases h with h | ⟨b, off, ad, cp, rfl, hb⟩
  · exact Or.inl h
  · exact Or.inr ⟨b, off, ad, cp, rfl, (hb.below q).more q.size⟩
theorem Lm.parts {a : Option Addr} {L : List (List Int)} {w : World} (h : Lm a L w) : ∃ b off, ∀ i, i < L.length → a = some ⟨b, off, none⟩ ∧ ∃ ad cp, w.cell? ⟨b, off + i, none⟩ = some (.slice ad (Mf.ln L i) cp) ∧ Sl ad (Mf.row L i) w := by
  rcases h with h | ⟨b, off, ad, cp, rfl, hb⟩
  · exact ⟨0, 0, fun i hi => by omega⟩
  · exact ⟨b, off, fun i hi => ⟨rfl, ad i, cp i, (hb.2 i hi).1, (hb.2 i hi).2⟩⟩
theorem merged_call (a : Option Addr) (n c : Nat) (w : World) : Calls Tryd.prog 39 #[.slice a n c] w fun e w' =>
    e = .returned (.func (.func 50) #[] #[.pointer (some ⟨w.heap.size, 0, none⟩)]) ∧ w' = w.alloc (.cells #[.slice a n c] 33) := by
  go_enter Tryd.func39, Tryd.ntmps39
  go_wp2_with fail
  go_ret
  exact ⟨rfl, rfl⟩
theorem merged_itr (m n c : Nat) (hm : 1 ≤ m) (a : Option Addr) (L : List (List Int)) (hn : L.length = n) (hn64 : n ≤ 1000000) (hln : ∀ j, j < n → Mf.ln L j ≤ 1000000000) (w : World) (h : Lm a L w) :
    Itr m 50 #[.pointer (some ⟨w.heap.size, 0, none⟩)] (w.alloc (.cells #[.slice a n c] 33)).heap.size (Mf.mrg L) (w.alloc (.cells #[.slice a n c] 33)) := by
  intro l J W hB hz hJ hY h0
  have hs : (w.alloc (.cells #[.slice a n c] 33)).heap.size = w.heap.size + 1 := by simp
  have hbox : W.cell? ⟨w.heap.size, 0, none⟩ = some (.slice a n c) := by
    rw [hB.cell (p := ⟨w.heap.size, 0, none⟩) (by simp)]
    simp
  rcases h with h | ⟨b, off, ad, cp, rfl, hb⟩
  · obtain rfl : L = [] := List.eq_nil_of_length_eq_zero h
    obtain rfl : n = 0 := by rw [← hn]; rfl
    exact merged_zero m l w.heap.size _ c a hm W J hJ hbox (by simp) hz h0
  · have hq : Q w (w.alloc (.cells #[.slice (some ⟨b, off, none⟩) n c] 33)) := (Q.refl w).alloc _
    have hb2 : LmB (w.alloc (.cells #[.slice (some ⟨b, off, none⟩) n c] 33)).heap.size b off ad cp L W := ((hb.below hq).more hq.size).below hB
    exact merged_in m l w.heap.size _ b off n c hm ad cp L hn hn64 hln W J hJ (fun pre x W1 h1 h2 h3 => hY pre x W1 h1 (by rw [Mf.mrg_len]; exact h2) h3) hbox (by simp) hb2 hz h0
theorem collect_mrg (n c : Nat) (a : Option Addr) (L : List (List Int)) (hn : L.length = n) (hn64 : n ≤ 1000000) (hln : ∀ j, j < n → Mf.ln L j ≤ 1000000000) (ht : Mf.tot L ≤ 1000000000) (w : World) (h : Lm a L w) :
    Calls Tryd.prog 38 #[.func (.func 50) #[] #[.pointer (some ⟨w.heap.size, 0, none⟩)]] (w.alloc (.cells #[.slice a n c] 33)) fun e w' =>
      ∃ v, e = .returned v ∧ w'.ownsRow w.heap.size 42 2 v (Mf.mrg L).length (pcs (Mf.mrg L)) ∧ Q w w' := by
  refine (callsIn_wide.1 (collect_in 5 50 _ (by omega) (enters_of Tryd.func50 (by kernel_rfl) rfl) (Mf.mrg L) (by rw [Mf.mrg_len]; exact ht) _ (merged_itr 3 n c (by omega) a L hn hn64 hln w h))).mono ?_
  rintro e w' ⟨v, rfl, hr, hb⟩
  exact ⟨v, rfl, ownsRow_base hr (by simp), ((Q.refl w).alloc _).trans hb⟩
def OrdPost (L : List (List Int)) (w : World) (e : Ending) (w' : World) : Prop :=
  ∃ v, e = .returned (.tuple #[v, .int .i64 (Mf.ordE L)]) ∧ w'.ownsRow w.heap.size 42 2 v (Mf.ordM L).length (pcs (Mf.ordM L)) ∧ Q w w'
theorem OrdPost.err {L : List (List Int)} {w w' : World} {x : Int} (h : Mf.ordE L = x) (hx : x ≠ 0) (q : Q w w') : OrdPost L w (.returned (.tuple #[.slice none 0 0, .int .i64 x])) w' := by
  refine ⟨_, by rw [h], ?_, q⟩
  rw [Mf.ordM_err (by rw [h]; exact hx)]
  exact World.ownsRow_nil _ _ _ _
set_option maxHeartbeats 1000000 in
theorem order_any (a : Option Addr) (L : List (List Int)) (n c : Nat) (hn : L.length = n) (hn64 : n ≤ 1000000) (hln : ∀ j, j < n → Mf.ln L j ≤ 1000000000) (w : World) (h : Lm a L w) :
    Calls Tryd.prog 22 #[.slice a n c] w (OrdPost L w) := by
  have hgi : goInt n = .int .i64 n := by simp [goInt]
  by_cases hm : 64 < n
  · have y1 : decide ((64 : Int) < (n : Int)) = true := by simp; omega
    have he := Mf.ordE_many (L := L) (by rw [hn]; exact hm)
    clear h
    go_enter Tryd.func22, Tryd.ntmps22
    go_wp2_with fail
    exact bodyPost_ret (v := .tuple #[.slice none 0 0, .int .i64 12]) (by simp [results, Tryd.results22, go_sem]) rfl (OrdPost.err he (by decide) (Q.refl _))
  · have y1 : decide ((64 : Int) < (n : Int)) = false := by simp; omega
    have HL := Lib.hid h
    obtain ⟨b, off, hp⟩ := h.parts
    have HP := Lib.hid hp
    have kl := fun (ad : Option Addr) (cp k : Nat) (hk : k < n) (g : Sl ad (Mf.row L k) w) => list_any ad (Mf.row L k) (Mf.ln L k) cp rfl (hln k hk) w g
    have HN := Lib.hid hn
    have HZ := Lib.hid hln
    clear h hp hn hln
    go_enter Tryd.func22, Tryd.ntmps22
    go_wp2_with fail
    go_loopw [4, 13] (fun vs vi wr => ∃ k : Nat, vi = .int .i64 k ∧ vs = .int .i64 (Mf.sumTo (Mf.ln L) k) ∧ k ≤ n ∧ wr = w ∧ Mf.errTo L k = 0) (fun _ vi _ => n - (intOf vi).toNat)
    case atStart => exact ⟨0, rfl, rfl, by omega, rfl, rfl⟩
    case round =>
      obtain ⟨k, rfl, rfl, hk, rfl, he⟩ := hrel
      have HE := Lib.hid he; clear he
      rcases Nat.lt_or_ge k n with hlt | hge
      · have y2 : decide ((k : Int) < (n : Int)) = true := by simp; omega
        obtain ⟨rfl, ad, cp, hc, hs⟩ := HP.out k (by rw [HN.out]; exact hlt)
        have y3 : (0 : Int) ≤ (k : Int) ∧ (k : Int) < (n : Int) := by omega
        have hgl : goInt (Mf.ln L k) = .int .i64 (Mf.ln L k) := by simp [goInt]
        have hl1 := HZ.out k hlt
        have hsum : Mf.sumTo (Mf.ln L) k ≤ k * 1000000000 := Mf.sumTo_bd (fun j hj => HZ.out j (by omega))
        have hsum2 : (0 : Int) ≤ (Mf.sumTo (Mf.ln L) k : Int) + Mf.ln L k ∧ (Mf.sumTo (Mf.ln L) k : Int) + Mf.ln L k ≤ 1000000000000000 := by omega
        have hstep : Hid (Mf.sumTo (Mf.ln L) (k + 1) = Mf.sumTo (Mf.ln L) k + Mf.ln L k) := Lib.hid rfl
        have hk1 := kl ad cp k hlt hs
        have hoe : Hid (Mf.listE (Mf.row L k) ≠ 0 → Mf.ordE L = Mf.listE (Mf.row L k)) := Lib.hid (fun q => Mf.ordE_err (by rw [HN.out]; omega) (by rw [HN.out]; exact hlt) HE.out q)
        have hne : Hid (Mf.errTo L (k + 1) = Mf.listE (Mf.row L k)) := Lib.hid (Mf.errTo_ok HE.out)
        generalize Mf.listE (Mf.row L k) = x at *
        generalize hgs : Mf.sumTo (Mf.ln L) k = s at *
        generalize hgll : Mf.ln L k = ll at *
        have HGS := Lib.hid hgs; have HGL := Lib.hid hgll
        clear hgs hgll kl
        by_cases hx : x = 0
        · subst hx
          clear hoe
          go_wp2_with (go_at_call 33; refine hk1.mono ?_; rintro e w1 ⟨rfl, hw1⟩; rw [← hw1]; clear hw1)
          go_roundw
          case rel => exact ⟨k + 1, by go_num, by rw [hstep.out]; simp, by omega, by first | rfl | trivial, hne.out⟩
          case measure => simp [intOf]; omega
        · have y4 : (x != 0) = true := bne_t hx
          go_wp2_with (go_at_call 33; refine hk1.mono ?_; rintro e w1 ⟨rfl, hw1⟩; rw [← hw1]; clear hw1)
          exact bodyPost_ret (v := .tuple #[.slice none 0 0, .int .i64 x]) (by simp [results, Tryd.results22, go_sem]) rfl (OrdPost.err (hoe.out hx) hx (Q.refl _))
      · obtain rfl : k = n := by omega
        have y2 : decide ((k : Int) < (k : Int)) = false := by simp
        have htt : Mf.sumTo (Mf.ln L) k = Mf.tot L := by unfold Mf.tot; rw [HN.out]
        rw [htt]
        clear kl htt
        have he0 : Mf.errTo L L.length = 0 := by rw [HN.out]; exact HE.out
        by_cases hb : 100000 < Mf.tot L
        · have he := Mf.ordE_big (L := L) (by rw [HN.out]; omega) he0 hb
          have HO := Lib.hid he
          have y3 : decide ((100000 : Int) < (Mf.tot L : Int)) = true := by simp; omega
          clear he he0
          go_wp2_with fail
          exact bodyPost_ret (v := .tuple #[.slice none 0 0, .int .i64 12]) (by simp [results, Tryd.results22, go_sem]) rfl (OrdPost.err HO.out (by decide) (Q.refl _))
        · have he := Mf.ordE_ok (L := L) (by rw [HN.out]; omega) he0 (by omega)
          have HO := Lib.hid he
          have y3 : decide ((100000 : Int) < (Mf.tot L : Int)) = false := by simp; omega
          have kc := collect_mrg k c a L HN.out hn64 HZ.out (by omega) wr HL.out
          have km := merged_call a k c wr
          clear he he0
          go_wp2_with (first
            | (go_at_call 39; refine km.mono ?_; rintro e w1 ⟨rfl, rfl⟩)
            | (go_at_call 38; refine kc.mono ?_; rintro e w1 ⟨v, rfl, hr, hq⟩))
          refine bodyPost_ret (v := .tuple #[v, .int .i64 0]) (by simp [results, Tryd.results22, go_sem]) rfl ⟨v, by rw [HO.out], ?_, hq⟩
          rw [Mf.ordM_ok HO.out]
          exact hr
end Go.Proofs.YtadfdkhgjjehnaaDoor
