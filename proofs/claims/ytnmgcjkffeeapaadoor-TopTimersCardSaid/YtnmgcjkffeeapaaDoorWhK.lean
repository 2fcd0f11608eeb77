/- The contract of wheel.New. -/
import Derived.Test.YtnmgcjkffeeapaaDoorWhG
import Derived.Deep.DeepCutAuto
namespace Go.Proofs.YtnmgcjkffeeapaaDoor
open Go.RowKit
set_option linter.unusedVariables false
set_option linter.unusedSimpArgs false
theorem zc_list : Tryd.zeroCells55.toList = [Value.int .i64 0, .int .i64 0, .int .i64 0, .pointer none, .map none] ++ (List.replicate 256 (Value.slice none 0 0) ++ (List.replicate 4 (Value.int .u64 0) ++ [Value.slice none 0 0])) := by kernel_rfl
theorem zc_size : Tryd.zeroCells55.size = 266 := by kernel_rfl
theorem zc_get (k : Nat) (h5 : 5 ≤ k) (hk : k < 266) : Tryd.zeroCells55[k]? = some (if 261 ≤ k ∧ k < 265 then .int .u64 0 else .slice none 0 0) := by
  rw [← Array.getElem?_toList, zc_list, List.getElem?_append_right (by simpa using h5)]
  show (List.replicate 256 (Value.slice none 0 0) ++ (List.replicate 4 (Value.int .u64 0) ++ [Value.slice none 0 0]))[k - 5]? = _
  by_cases h1 : k - 5 < 256
  · rw [List.getElem?_append_left (by rw [List.length_replicate]; exact h1), List.getElem?_replicate, if_pos h1, if_neg (by omega)]
  · rw [List.getElem?_append_right (by rw [List.length_replicate]; omega), List.length_replicate]
    by_cases h2 : k - 5 - 256 < 4
    · rw [List.getElem?_append_left (by rw [List.length_replicate]; exact h2), List.getElem?_replicate, if_pos h2, if_pos (by omega)]
    · have e : k = 265 := by omega
      subst e
      rfl
def wcells (z : Array Value) (a b c d : Value) : Array Value := (((z.setIfInBounds 0 a).setIfInBounds 1 b).setIfInBounds 3 c).setIfInBounds 4 d
theorem wc_get (a b c d : Value) (k : Nat) (h5 : 5 ≤ k) (hk : k < 266) : (wcells Tryd.zeroCells55 a b c d)[k]? = some (if 261 ≤ k ∧ k < 265 then .int .u64 0 else .slice none 0 0) := by
  unfold wcells
  rw [Array.getElem?_setIfInBounds, if_neg (by omega), Array.getElem?_setIfInBounds, if_neg (by omega), Array.getElem?_setIfInBounds, if_neg (by omega), Array.getElem?_setIfInBounds, if_neg (by omega)]
  exact zc_get k h5 hk
theorem wc_low (a b c d : Value) : (wcells Tryd.zeroCells55 a b c d)[0]? = some a ∧ (wcells Tryd.zeroCells55 a b c d)[1]? = some b ∧ (wcells Tryd.zeroCells55 a b c d)[2]? = some (.int .i64 0) ∧ (wcells Tryd.zeroCells55 a b c d)[3]? = some c ∧ (wcells Tryd.zeroCells55 a b c d)[4]? = some d := by
  have h2 : Tryd.zeroCells55[2]? = some (.int .i64 0) := by kernel_rfl
  unfold wcells
  refine ⟨by simp [Array.getElem?_setIfInBounds, zc_size], by simp [Array.getElem?_setIfInBounds, zc_size], ?_, by simp [Array.getElem?_setIfInBounds, zc_size], by simp [Array.getElem?_setIfInBounds, zc_size]⟩
  rw [Array.getElem?_setIfInBounds, if_neg (by omega), Array.getElem?_setIfInBounds, if_neg (by omega), Array.getElem?_setIfInBounds, if_neg (by omega), Array.getElem?_setIfInBounds, if_neg (by omega)]
  exact h2
theorem new_wl (w : World) (A M now : Nat) (T t : Nat → Nat) (idf : Nat → Int) : Wl (fun b => b = w.heap.size) w.heap.size A M 0 T t idf now (now + 1) 0 (fun _ => []) (w.alloc (.cells (wcells Tryd.zeroCells55 (.int .i64 (now : Int)) (.int .i64 ((now : Int) + 1)) (.pointer (some ⟨A, 0, none⟩)) (.map (some M))) 55)) := by
  obtain ⟨l0, l1, l2, l3, l4⟩ := wc_low (.int .i64 (now : Int)) (.int .i64 ((now : Int) + 1)) (.pointer (some ⟨A, 0, none⟩)) (.map (some M))
  have hg := wc_get (.int .i64 (now : Int)) (.int .i64 ((now : Int) + 1)) (.pointer (some ⟨A, 0, none⟩)) (.map (some M))
  generalize wcells Tryd.zeroCells55 (.int .i64 (now : Int)) (.int .i64 ((now : Int) + 1)) (.pointer (some ⟨A, 0, none⟩)) (.map (some M)) = cs at *
  have ca : ∀ k, (w.alloc (.cells cs 55)).cell? ⟨w.heap.size, k, none⟩ = cs[k]? := by
    intro k
    rw [World.cell?]; simp only [heap_alloc_new]; rfl
  have fa : ∀ k, (w.alloc (.cells cs 55)).frozen? ⟨w.heap.size, k, none⟩ = false := by
    intro k
    simp only [World.frozen?, heap_alloc_new]
    simp
  refine ⟨fun _ => .slice none 0 0, fun _ => 0, ⟨(ca 0).trans l0, ?_, (ca 2).trans l2, (ca 3).trans l3, (ca 4).trans l4, fun j hj => ?_, fun L hL => ?_, fun j _ => fa j⟩, ⟨fun j _ => World.ownsRow_nil _ _ _ _, fun i hi => by omega, rfl, fun b hb => by rw [hb]; simp, fun j _ b hb => by simp [Value.ownBlock] at hb, fun j k b _ _ hb => by simp [Value.ownBlock] at hb, fun i hi => by omega, fun i k hi => by omega⟩, fun L hL => ⟨Nat.two_pow_pos 64, fun s hs => by simp⟩, fun j i hi => by cases hi⟩
  · rw [ca 1, l1]
    simp
  · have ho := off_lt hj
    rw [ca, hg _ ho.2.1 ho.1, if_neg ho.2.2]
  · rw [ca, hg _ (by omega) (by omega), if_pos (by omega)]
    rfl
/-- what New makes -/
def Newed (N now : Nat) (T t : Nat → Nat) (idf : Nat → Int) (w : World) (e : Ending) (w' : World) : Prop :=
  ∃ W A Sb M, e = .returned (.tuple #[.pointer (some ⟨W, 0, none⟩), .int .i64 0]) ∧ Wl (fun b => b = W) W A M 0 T t idf now (now + 1) 0 (fun _ => []) w' ∧ Wz A Sb M N 0 (fun _ => false) True w' ∧ A ≠ W ∧ Sb ≠ W ∧ M ≠ W ∧ A ≠ M ∧ Sb ≠ M ∧ w.heap.size ≤ W ∧ w.heap.size ≤ A ∧ w.heap.size ≤ Sb ∧ w.heap.size ≤ M ∧ Q w w'
set_option maxRecDepth 100000 in
set_option maxHeartbeats 4000000 in
theorem new_ok (N now : Nat) (T t : Nat → Nat) (idf : Nat → Int) (hN : 0 < N ∧ N ≤ 60) (hnow : now < 1099511627776) (w : World) : Calls Tryd.prog 5 #[.int .i64 (N : Int), .int .i64 (now : Int)] w fun e w' => Newed N now T t idf w e w' := by
  have ka := anew_ok N hN w
  have hmm := @run_makeMap Tryd.prog
  have y1 : decide ((now : Int) < 0) = false := by simp
  have y2 : decide ((4611686018427387904 : Int) < (now : Int)) = false := decide_eq_false (by omega)
  have y3 : (now : Int) < 1099511627776 := by omega
  clear hnow
  go_enter Tryd.func5, Tryd.ntmps5
  go_upto_region 2 with (go_at_call 15; (with_reducible refine ka.mono ?_); rintro e w1 ⟨A, Sb, rfl, hA1, hA2, hA3, hq⟩; have HA1 := Lib.hid hA1; have HA2 := Lib.hid hA2; have HA3 := Lib.hid hA3; have HQ := Lib.hid hq; clear hA1 hA2 hA3 hq)
  go_wp2_with fail
  go_ret2
  have hw := new_wl (w1.alloc (.map #[] 0)) A w1.heap.size now T t idf
  have qf : Q w1 ((w1.alloc (.map #[] 0)).alloc (.cells (wcells Tryd.zeroCells55 (.int .i64 (now : Int)) (.int .i64 ((now : Int) + 1)) (.pointer (some ⟨A, 0, none⟩)) (.map (some w1.heap.size))) 55)) := ((Q.refl _).alloc _).alloc _
  have hm : MpAt w1.heap.size (([] : List Nat).map hnd) [] ((w1.alloc (.map #[] 0)).alloc (.cells (wcells Tryd.zeroCells55 (.int .i64 (now : Int)) (.int .i64 ((now : Int) + 1)) (.pointer (some ⟨A, 0, none⟩)) (.map (some w1.heap.size))) 55)) := by
    refine ⟨#[], 0, ?_, by simp, by simp⟩
    rw [heap_alloc_old _ _ (by simp)]
    exact heap_alloc_new w1 _
  rw [size_heap_alloc'] at hw
  have lA := HA3.out.ltA
  have lS := HA3.out.ltS
  have sq := HQ.out.size
  refine ⟨w1.heap.size + 1, A, Sb, w1.heap.size, rfl, hw, ⟨[], _, -1, 0, HA3.out.q qf, hm, by simp, by simp, by simp, by simp, fun _ => rfl⟩, by omega, by omega, by omega, by omega, by omega, by omega, by have := HA1.out; have := HA2.out; omega, HA1.out, by omega, HQ.out.trans qf⟩
end Go.Proofs.YtnmgcjkffeeapaaDoor
