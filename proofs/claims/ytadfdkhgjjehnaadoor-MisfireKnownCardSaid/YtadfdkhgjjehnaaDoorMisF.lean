/- The contracts of slices.AppendSeq and slices.Collect over an iterator of pairs. -/
import Derived.Test.YtadfdkhgjjehnaaDoorMisD
import Derived.RangeFuncNested
import Derived.RangeFuncBound
import Derived.RangeFuncCalls
import Derived.RangeFuncLeaves
import Derived.RangeFuncBox
import Derived.Maps.AppendAt
import Derived.Shelf.Abstract
import Derived.OwnWalkIn
import Derived.TacticsInMore
import Derived.Maps.RangeWalk
namespace Go.Proofs.YtadfdkhgjjehnaaDoor
open Go.RowKit Go.Shelf
set_option linter.unusedVariables false
set_option linter.unusedSimpArgs false
attribute [local go_sem] Oper.semAt_some
/-- the cells of pairs -/
def pcs : List (Int × Int) → List Value
  | [] => []
  | x :: xs => .int .i64 x.1 :: .int .i64 x.2 :: pcs xs
theorem pcs_app (xs ys : List (Int × Int)) : pcs (xs ++ ys) = pcs xs ++ pcs ys := by
  induction xs with
  | nil => rfl
  | cons a t ih => simp [pcs, ih]
theorem pcs_len (xs : List (Int × Int)) : (pcs xs).length = xs.length * 2 := by
  induction xs with
  | nil => rfl
  | cons a t ih => simp [pcs, ih]; omega
theorem info42 : (Tryd.prog.info? 42).map (fun i => (i.zero, i.size, i.bytes)) = some (some (.agg #[.int .i64 0, .int .i64 0]), 2, 16) := by kernel_rfl
theorem ownsRow_ne {W : World} {base : Nat} {e : TypeId} {size : Nat} {v : Value} {k : Nat} {xs : List Value} (h : W.ownsRow base e size v k xs) {j : Nat} {o : Obj} (hj : W.heap[j]? = some o) (hno : ∀ cur, o ≠ .cells cur e (0, 0)) :
    v.ownBlock = none ∨ v.ownBlock ≠ some j := by
  rcases h.2 with ⟨rfl, _⟩ | ⟨g, cap, cur, rfl, _, hgb, _⟩
  · exact .inl rfl
  · refine .inr fun e' => ?_
    have : g = j := by simpa [Value.ownBlock] using e'
    subst this; rw [hgb] at hj; cases hj; exact hno cur rfl
theorem ownsRow_base {W : World} {base base' : Nat} {e : TypeId} {size : Nat} {v : Value} {k : Nat} {xs : List Value} (h : W.ownsRow base e size v k xs) (hb : base' ≤ base) : W.ownsRow base' e size v k xs := by
  refine ⟨h.1, ?_⟩
  rcases h.2 with hn | ⟨g, cap, cur, hv, hbg, rest⟩
  · exact .inl hn
  · exact .inr ⟨g, cap, cur, hv, Nat.le_trans hb hbg, rest⟩
theorem two_new (w : World) (x y : Value) (t : TypeId) : ∀ j u, [x, y][j]? = some u → (w.alloc (.cells #[x, y] t)).cell? ((⟨w.heap.size, 0, none⟩ : Addr).add j) = some u := by
  intro j u hj
  match j, hj with
  | 0, hj => simp at hj; subst hj; simp [Addr.add]
  | 1, hj => simp at hj; subst hj; simp [Addr.add]
def apAssign : Code := (Code.region 2
        #[{ dst := some 5, op := Op.alloc 42, type := 0, pos := "iter.go:51", after := #[], guard := none },
          { dst := none, op := Op.store 42 (Operand.tmp 5) (Operand.tmp 7), type := 0, pos := "iter.go:51",
            after := #[{ on := 0, ground := Ground.data }, { on := 0, ground := Ground.phase }], guard := none }]
        false)
def apBody : Code := (Code.block 1
        (Code.region 3
          #[{ dst := some 8, op := Op.load 34 (Operand.tmp 2), type := 34, pos := "iter.go:52", after := #[],
              guard := none },
            { dst := some 9, op := Op.load 42 (Operand.tmp 5), type := 42, pos := "iter.go:52", after := #[],
              guard := none },
            { dst := some 10, op := Op.buildSlice 34 1 #[(0, Operand.tmp 9)], type := 34, pos := "iter.go:52",
              after := #[{ on := 1, ground := Ground.data }], guard := none },
            { dst := some 11,
              op :=
                Op.call
                  { callee := Callee.builtin Builtin.append, args := #[Operand.tmp 8, Operand.tmp 10],
                    argTypes := #[34, 34] },
              type := 34, pos := "iter.go:52",
              after := #[{ on := 0, ground := Ground.data }, { on := 2, ground := Ground.data }], guard := none },
            { dst := none, op := Op.store 34 (Operand.tmp 2) (Operand.tmp 11), type := 0, pos := "iter.go:52",
              after :=
                #[{ on := 3, ground := Ground.data }, { on := 3, ground := Ground.chain },
                  { on := 0, ground := Ground.phase }, { on := 1, ground := Ground.phase },
                  { on := 2, ground := Ground.phase }, { on := 3, ground := Ground.phase }],
              guard := none }]
          false))
def apRec (fn : FuncId) (sv : Value) (Bs D : Nat) (st : LoopState) (pend : Option Code) : Loop :=
  { state := st, pending := pend, fn, tmps := #[.slice none 0 0, sv, .pointer (some ⟨Bs, 0, none⟩), undef, .slice none 0 0, undef, sv, undef, undef, undef, undef, undef, undef], params := #[7], assign := apAssign, body := apBody, defers := D }
/-- between two rounds; R: no row lies below R, or in it -/
structure ApAt (n₀ : Nat) (w0 : World) (R : Nat) (fn : FuncId) (sv : Value) (Bs l D : Nat) (ss : List (Int × Int)) (W : World) : Prop where
  box : ∃ v, W.heap[Bs]? = some (.cells #[v] 34 (0, 0)) ∧ W.ownsRow (R + 1) 42 2 v ss.length (pcs ss)
  L : W.heap[l]? = some (.loop (apRec fn sv Bs D .ready none))
  K : W.heap[D]? = some (.deferred (some []))
  below : Below n₀ w0 W
theorem ap_abides (n₀ : Nat) (w0 : World) (R : Nat) (fn : FuncId) (sv : Value) (Bs l D : Nat) (hBs : Bs < R) (hl : l < R) (hD : D < R) (hn₀ : n₀ ≤ R) (hw0 : n₀ ≤ w0.heap.size) : ∀ pre W1 W2 row, ApAt n₀ w0 R fn sv Bs l D pre W1 → W1.grownBy W2 row → (∀ r, row = some r → r = R) → ApAt n₀ w0 R fn sv Bs l D pre W2 := by
  intro pre W1 W2 row h hg hrow
  obtain ⟨v, hv, hr⟩ := h.box
  have hk : ∀ j, j < R → ∀ o, W1.heap[j]? = some o → W2.heap[j]? = some o := fun j hj o ho =>
    (hg.block j (Array.getElem?_eq_some_iff.1 ho).1 (fun e => by have := hrow j e.symm; omega)).trans ho
  refine ⟨⟨v, hk _ hBs _ hv, hr.kept hg ?_⟩, hk _ hl _ h.L, hk _ hD _ h.K, h.below.grown hg (Nat.le_trans hw0 h.below.size) (fun k e => by have := hrow k e; omega)⟩
  cases hvb : v.ownBlock with
  | none => exact Or.inl rfl
  | some g =>
    right; intro e
    have a1 := (hr.lt g hvb).1
    have a2 := hrow g e.symm
    omega
theorem grownBy_putObj (W : World) (l : Nat) (o : Obj) : W.grownBy (W.putObj l o) (some l) :=
  ⟨rfl, rfl, rfl, by simp, fun k _ hk => World.putObj_heap_other (fun e => hk (by rw [e]))⟩
theorem grownBy_setCell0 (W : World) (b : Nat) (v : Value) : W.grownBy (W.setCell ⟨b, 0, none⟩ v) (some b) :=
  ⟨rfl, rfl, rfl, (KeepsWalks.setCell W _ v).size, fun k _ hk => Below.heap_setCell _ _ _ k (fun e => hk (by rw [e]))⟩
theorem cell_of_box {W : World} {B : Nat} {v : Value} {t : TypeId} (h : W.heap[B]? = some (.cells #[v] t (0, 0))) : W.cell? ⟨B, 0, none⟩ = some v ∧ W.frozen? ⟨B, 0, none⟩ = false := by
  constructor <;> simp [World.cell?, World.frozen?, h]
theorem heap_setCell_box {W : World} {B : Nat} {v : Value} {t : TypeId} (v' : Value) (h : W.heap[B]? = some (.cells #[v] t (0, 0))) : (W.setCell ⟨B, 0, none⟩ v').heap[B]? = some (.cells #[v'] t (0, 0)) := by
  obtain ⟨hlt, hk⟩ := Array.getElem?_eq_some_iff.1 h
  show (W.heap.modify B _)[B]? = _
  rw [Array.getElem?_eq_getElem (by rw [Array.size_modify]; exact hlt), Array.getElem_modify_self, hk]
  rfl
set_option maxRecDepth 100000 in
set_option maxHeartbeats 2000000 in
theorem apYield (m n₀ : Nat) (w0 : World) (R : Nat) (fn : FuncId) (sv : Value) (Bs l D : Nat) (hBl : Bs ≠ l) (hDl : D ≠ l) (hDB : D ≠ Bs) (hR1 : Bs < R) (hR2 : l < R) (hR3 : D < R) (h0B : n₀ ≤ Bs) (h0l : n₀ ≤ l) (h00 : n₀ ≤ w0.heap.size)
    (N : Nat) (hN : N ≤ maxLen) (hNb : N * 16 ≤ 140737488355328) (ss : List (Int × Int)) (x : Int × Int) (W : World) (h : ApAt n₀ w0 R fn sv Bs l D ss W) (hlen : ss.length < N) (hRW : R < W.heap.size) :
    YieldAt Fence.wide m Tryd.prog l #[.agg #[.int .i64 x.1, .int .i64 x.2]] W fun e W' => e = .returned (.bool true) ∧ ApAt n₀ w0 R fn sv Bs l D (ss ++ [x]) W' ∧ W'.heap[R]? = W.heap[R]? ∧ Below n₀ W W' := by
  obtain ⟨i0, hi, hz0, hz1, hz2⟩ := info_parts info42
  refine ⟨fn, #[.slice none 0 0, sv, .pointer (some ⟨Bs, 0, none⟩), undef, .slice none 0 0, undef, sv, .agg #[.int .i64 x.1, .int .i64 x.2], undef, undef, undef, undef, undef], apAssign, apBody, by simpa [apRec] using run_yield (P := Tryd.prog) (args := #[.agg #[.int .i64 x.1, .int .i64 x.2]]) h.L rfl, roundIn_of_wpIn trivial ?_⟩
  unfold apAssign
  gi_wp2_with (rw [Oper.semAt_eq _ _ _ (fun c h => by cases h)]; go_simp; try go_bits)
  obtain ⟨Wa, hWa⟩ : ∃ Wa, W.alloc (.cells #[.int .i64 x.1, .int .i64 x.2] 42) = Wa := ⟨_, rfl⟩
  have hga : W.grownBy Wa none := by rw [← hWa]; exact World.grownBy_alloc W _ none
  have hca : Wa.heap[W.heap.size]? = some (.cells #[.int .i64 x.1, .int .i64 x.2] 42 (0, 0)) := by rw [← hWa]; exact World.alloc_heap_new W _
  have ha := ap_abides n₀ w0 R fn sv Bs l D hR1 hR2 hR3 (by omega) h00 ss W Wa none h hga (fun r e => by cases e)
  rw [hWa]
  clear hWa
  obtain ⟨v, hv, hrow⟩ := ha.box
  have hl : l < Wa.heap.size := (Array.getElem?_eq_some_iff.1 ha.L).1
  have hz : W.heap.size < Wa.heap.size := (Array.getElem?_eq_some_iff.1 hca).1
  have hbr := run_beginRound (P := Tryd.prog) ha.L rfl
  obtain ⟨W2, hW2⟩ : ∃ W2, Wa.putObj l (.loop { apRec fn sv Bs D .ready none with state := .busy }) = W2 := ⟨_, rfl⟩
  rw [hW2] at hbr
  refine ⟨W2, hbr, ?_⟩
  have hg2 : Wa.grownBy W2 (some l) := by rw [← hW2]; exact grownBy_putObj _ _ _
  have hv2 : W2.heap[Bs]? = some (.cells #[v] 34 (0, 0)) := by rw [← hW2]; exact (World.putObj_heap_other hBl).trans hv
  have hK2 : W2.heap[D]? = some (.deferred (some [])) := by rw [← hW2]; exact (World.putObj_heap_other hDl).trans ha.K
  have hL2 : W2.heap[l]? = some (.loop { apRec fn sv Bs D .ready none with state := .busy }) := by rw [← hW2]; exact World.putObj_heap_same hl
  have hx2 : W2.heap[W.heap.size]? = some (.cells #[.int .i64 x.1, .int .i64 x.2] 42 (0, 0)) := by rw [← hW2]; exact (World.putObj_heap_other (by omega)).trans hca
  have hR4 : W2.heap[R]? = W.heap[R]? := (hg2.block R (by omega) (fun e => by cases e; omega)).trans (hga.block R hRW (fun e => by cases e))
  have hrow2 : W2.ownsRow (R + 1) 42 2 v ss.length (pcs ss) := hrow.kept hg2 (ownsRow_ne hrow ha.L (fun cur e => by cases e))
  have hb2 : Below n₀ w0 W2 := ha.below.grown hg2 (Nat.le_trans h00 ha.below.size) (fun k e => by cases e; exact h0l)
  have hbW : Below n₀ W W2 := ((Below.refl n₀ W).grown hga (by omega) (fun k e => by cases e)).grown hg2 (by omega) (fun k e => by cases e; exact h0l)
  obtain ⟨hc2, hf2⟩ := cell_of_box hv2
  have hBlt : Bs < W2.heap.size := (Array.getElem?_eq_some_iff.1 hv2).1
  have hl2 : l < W2.heap.size := (Array.getElem?_eq_some_iff.1 hL2).1
  have hDlt : D < W2.heap.size := (Array.getElem?_eq_some_iff.1 hK2).1
  have hRlt : R < W2.heap.size := Nat.lt_of_lt_of_le hRW (hbW.size)
  have hx0 : W2.cell? ⟨W.heap.size, 0, none⟩ = some (.int .i64 x.1) := by simp [World.cell?, hx2]
  have hx1 : W2.cell? ⟨W.heap.size, 1, none⟩ = some (.int .i64 x.2) := by simp [World.cell?, hx2]
  have ne_of : ∀ {j : Nat} {o : Obj}, W2.heap[j]? = some o → (∀ cur, o ≠ .cells cur 42 (0, 0)) → some j ≠ v.ownBlock := fun hj hno => by
    rcases ownsRow_ne hrow2 hj hno with e | e
    · rw [e]; simp
    · exact fun e' => e e'.symm
  have HG := Lib.hid hg2
  have HA := Lib.hid ha
  have HRW := Lib.hid hRW
  clear hW2 hg2 hga hca hx2 ha h hbr hRW
  unfold apBody
  gi_wp2_with (first
    | (gi_at_builtin; refine wpListIn_append_own _ rfl _ _ 34 rfl (R + 1) 42 i0 (.agg #[.int .i64 0, .int .i64 0]) 2 16 Tryd.underlying34 hi hz0 hz1 hz2 rfl (by decide) _ _ _ rfl (hrow2.alloc _) ⟨W2.heap.size, 0, none⟩ 1 1 [.int .i64 x.1, .int .i64 x.2] rfl rfl (two_new _ _ _ _) (by simp [Value.oneCell']) (by omega) (by omega) (by simp; omega) ?_; intro v' w3 hown' hg3 hnil3
       have hv3 : w3.heap[Bs]? = some (.cells #[v] 34 (0, 0)) := (hg3.block Bs (by simp; omega) (ne_of hv2 (fun cur e => by cases e))).trans ((Below.heap_alloc _ _ Bs hBlt).trans hv2)
       obtain ⟨hc3, hf3⟩ := cell_of_box hv3
       obtain ⟨g', cap', rfl⟩ := ownsRow_succ hown'
       go_frame)
    | (rw [Oper.semAt_eq _ _ _ (fun c h => by cases h)]; go_simp; try go_bits))
  have hg3' : (W2.alloc (.cells #[.int .i64 x.1, .int .i64 x.2] 42)).grownBy w3 v.ownBlock := hg3
  have hL3 : w3.heap[l]? = some (.loop { apRec fn sv Bs D .ready none with state := .busy }) := (hg3'.block l (by simp; omega) (ne_of hL2 (fun cur e => by cases e))).trans ((Below.heap_alloc _ _ l hl2).trans hL2)
  have hK3 : w3.heap[D]? = some (.deferred (some [])) := (hg3'.block D (by simp; omega) (ne_of hK2 (fun cur e => by cases e))).trans ((Below.heap_alloc _ _ D hDlt).trans hK2)
  have hRv : some R ≠ v.ownBlock := fun e => by have := (hrow2.lt R e.symm).1; omega
  have hR5 : w3.heap[R]? = W.heap[R]? := (hg3'.block R (by simp; omega) hRv).trans ((Below.heap_alloc _ _ R hRlt).trans hR4)
  obtain ⟨w4, hw4⟩ : ∃ w4, w3.setCell ⟨Bs, 0, none⟩ (.slice (some ⟨g', 0, none⟩) (ss.length + 1) cap') = w4 := ⟨_, rfl⟩
  rw [hw4]
  have hg4 : w3.grownBy w4 (some Bs) := by rw [← hw4]; exact grownBy_setCell0 _ _ _
  have hv4 : w4.heap[Bs]? = some (.cells #[.slice (some ⟨g', 0, none⟩) (ss.length + 1) cap'] 34 (0, 0)) := by rw [← hw4]; exact heap_setCell_box _ hv3
  have hL4 : w4.heap[l]? = some (.loop { apRec fn sv Bs D .ready none with state := .busy }) := (hg4.block l (Array.getElem?_eq_some_iff.1 hL3).1 (fun e => hBl (by cases e; rfl))).trans hL3
  have hK4 : w4.heap[D]? = some (.deferred (some [])) := (hg4.block D (Array.getElem?_eq_some_iff.1 hK3).1 (fun e => hDB (by cases e; rfl))).trans hK3
  have hz3 := hg3'.size
  rw [World.size_alloc] at hz3
  have hRW := HRW.out
  have hR6 : w4.heap[R]? = W.heap[R]? := (hg4.block R (by omega) (fun e => by cases e; omega)).trans hR5
  have hrow4 := hown'.kept hg4 (ownsRow_ne hown' hv3 (fun cur e => by cases e))
  have hl4 : l < w4.heap.size := (Array.getElem?_eq_some_iff.1 hL4).1
  have bel : ∀ u : World, Below n₀ u W2 → n₀ ≤ u.heap.size → Below n₀ u w4 := fun u hu hu2 =>
    ((hu.alloc (Nat.le_trans hu2 hu.size) _).grown hg3' (by have := hu.size; simp; omega) (fun k e => by have := (hrow2.lt k e).1; omega)).grown hg4 (by have := hu.size; omega) (fun k e => by cases e; exact h0B)
  have hb4 := bel w0 hb2 h00
  have hb5 := bel W hbW (by omega)
  have hz4 := hg4.size
  clear hw4
  refine ⟨_, _, run_endRound none hL4, rfl, ⟨⟨_, (World.putObj_heap_other hBl).trans hv4, ?_⟩, World.putObj_heap_same hl4, (World.putObj_heap_other hDl).trans hK4, hb4.grown (grownBy_putObj _ _ _) (by omega) (fun k e => by cases e; exact h0l)⟩, (World.putObj_heap_other (by omega)).trans hR6, hb5.grown (grownBy_putObj _ _ _) (by omega) (fun k e => by cases e; exact h0l)⟩
  have := hrow4.kept (grownBy_putObj w4 l (.loop { { apRec fn sv Bs D .ready none with state := .busy } with state := if (none : Option Code).isNone then .ready else .done, pending := none })) (ownsRow_ne hrow4 hL4 (fun cur e => by cases e))
  rw [pcs_app]
  simpa [pcs] using this
/-- an iterator of pairs, captured box at Bl, below n₀ -/
def Itr (m gf : Nat) (lb : Array Value) (n₀ : Nat) (xs : List (Int × Int)) (w0 : World) : Prop :=
  ∀ (l : Nat) (J : List (Int × Int) → World → Prop) (W : World), Below n₀ w0 W → n₀ ≤ W.heap.size →
    (∀ pre W1 W2 row, J pre W1 → W1.grownBy W2 row → (∀ r, row = some r → r = W.heap.size) → J pre W2) →
    (∀ pre x W1, J pre W1 → pre.length < xs.length → W.heap.size < W1.heap.size → YieldAt Fence.wide (m - 1) Tryd.prog l #[.agg #[.int .i64 x.1, .int .i64 x.2]] W1 fun e W' => e = .returned (.bool true) ∧ J (pre ++ [x]) W' ∧ W'.heap[W.heap.size]? = W1.heap[W.heap.size]? ∧ Below n₀ W1 W') →
    J [] W →
    CallsIn Fence.wide m Tryd.prog gf (#[.func (.yield l) #[] #[]] ++ lb) W fun e W' => (∃ v, e = .returned v) ∧ J xs W'
set_option maxRecDepth 100000 in
set_option maxHeartbeats 2000000 in
theorem appendSeq_in (n g : Nat) (lb : Array Value) (hn : 2 ≤ n) (eg : ∀ args w, (callFunc g args).run Tryd.prog w = .ok (.enter g args) w) (xs : List (Int × Int)) (hN : xs.length ≤ 1000000000) (w : World) (hseq : Itr (n - 1) g lb w.heap.size xs w) :
    CallsIn Fence.wide n Tryd.prog 49 #[.slice none 0 0, .func (.func g) #[] lb] w fun e w' => ∃ v, e = .returned v ∧ w'.ownsRow w.heap.size 42 2 v xs.length (pcs xs) ∧ Below w.heap.size w w' := by
  have h1 : 1 ≤ n := by omega
  refine callsIn_of_wp_marks Tryd.func49 rfl trivial ?_ rfl
  simp only [Tryd.ntmps49, List.size_toArray, List.length_cons, List.length_nil, Nat.reduceAdd, Nat.reduceSub, Array.replicate_succ, Array.replicate_zero, List.push_toArray, List.append_toArray, List.nil_append, List.cons_append]
  gi_wp2
  refine wpIn_rangeFunc ?_
  intro fn hfn
  obtain ⟨W0, hW0⟩ : ∃ W0, w.alloc (.cells #[.slice none 0 0] 34) = W0 := ⟨_, rfl⟩
  have hs0 : W0.heap.size = w.heap.size + 1 := by rw [← hW0]; simp
  have hv0 : W0.heap[w.heap.size]? = some (.cells #[.slice none 0 0] 34 (0, 0)) := by rw [← hW0]; exact World.alloc_heap_new w _
  have hb0 : Below w.heap.size w W0 := by rw [← hW0]; exact (Below.refl _ w).alloc (Nat.le_refl _) _
  rw [hW0]
  obtain ⟨W1, hW1⟩ : ∃ W1, (W0.alloc (.deferred (some []))).alloc (.loop (apRec fn (.func (.func g) #[] lb) w.heap.size W0.heap.size .ready none)) = W1 := ⟨_, rfl⟩
  have hold : ∀ k, k < W0.heap.size → W1.heap[k]? = W0.heap[k]? := fun k hk => by
    rw [← hW1]; exact (Below.heap_alloc _ _ k (by simp; omega)).trans (Below.heap_alloc _ _ k hk)
  have hb1 : Below w.heap.size w W1 := by rw [← hW1]; exact (hb0.alloc hb0.size _).alloc (by have := hb0.size; simp; omega) _
  have hs1 : W1.heap.size = W0.heap.size + 2 := by rw [← hW1]; simp
  have hM : ApAt w.heap.size w W1.heap.size fn (.func (.func g) #[] lb) w.heap.size (W0.heap.size + 1) W0.heap.size [] W1 :=
    ⟨⟨_, (hold w.heap.size (by omega)).trans hv0, ⟨rfl, .inl ⟨rfl, rfl⟩⟩⟩,
     by rw [← hW1]; have := World.alloc_heap_new (W0.alloc (.deferred (some []))) (.loop (apRec fn (.func (.func g) #[] lb) w.heap.size W0.heap.size .ready none)); rwa [World.size_alloc] at this,
     by rw [← hW1]; exact (Below.heap_alloc _ _ _ (by simp)).trans (World.alloc_heap_new W0 _), hb1⟩
  refine ⟨W0.heap.size + 1, [{ target := .collected W0.heap.size, args := #[] }], W1, { target := .fn (.func g) lb, args := #[.func (.yield (W0.heap.size + 1)) #[] #[]] }, W1, g,
    #[.func (.yield (W0.heap.size + 1)) #[] #[]] ++ lb, W1, ?_, ?_, ?_, ?_, fun _ => h1, ?_⟩
  · rw [← hW1]; exact run_enterLoop_outer _ _ _ _ _
  · simp [resolve, go_sem]
  · intro f' hf'; trivial
  · simp [invoke, go_sem, eg]
  · refine (hseq (W0.heap.size + 1) (ApAt w.heap.size w W1.heap.size fn (.func (.func g) #[] lb) w.heap.size (W0.heap.size + 1) W0.heap.size) W1 hb1 hb1.size (ap_abides _ _ _ _ _ _ _ _ (by omega) (by omega) (by omega) (by omega) (Nat.le_refl _))
      (fun pre x W hJ hl hRW => apYield (n - 1 - 1) w.heap.size w W1.heap.size fn _ w.heap.size (W0.heap.size + 1) W0.heap.size (by omega) (by omega) (by omega) (by omega) (by omega) (by omega) (Nat.le_refl _) (by omega) (Nat.le_refl _) xs.length (by unfold maxLen; omega) (by omega) pre x W hJ hl hRW) hM).mono ?_
    rintro e W2 ⟨⟨v0, rfl⟩, h2⟩
    obtain ⟨v, hv, hrow⟩ := h2.box
    have hend := run_endLoop (P := Tryd.prog) h2.L (by simp [apRec])
    obtain ⟨W3, hW3⟩ : ∃ W3, W2.putObj (W0.heap.size + 1) (.loop { apRec fn (.func (.func g) #[] lb) w.heap.size W0.heap.size .ready none with state := .exhausted }) = W3 := ⟨_, rfl⟩
    rw [hW3] at hend
    have hg3 : W2.grownBy W3 (some (W0.heap.size + 1)) := by rw [← hW3]; exact grownBy_putObj _ _ _
    have hv3 : W3.heap[w.heap.size]? = some (.cells #[v] 34 (0, 0)) := by rw [← hW3]; exact (World.putObj_heap_other (by omega)).trans hv
    have hK3 : W3.heap[W0.heap.size]? = some (.deferred (some [])) := by rw [← hW3]; exact (World.putObj_heap_other (by omega)).trans h2.K
    have hrow3 := hrow.kept hg3 (ownsRow_ne hrow h2.L (fun cur e => by cases e))
    have hb3 : Below w.heap.size w W3 := h2.below.grown hg3 h2.below.size (fun k e => by cases e; omega)
    obtain ⟨hc3, hf3⟩ := cell_of_box hv3
    clear hW3
    refine ⟨none, W3, hend, ?_⟩
    gi_wp2
    rw [← hs0]
    refine ⟨by simp, .inl ⟨_, _, rfl, run_takeDeferred hK3, ?_⟩⟩
    exact ⟨_, results_tmp rfl _ _ _, v, rfl, ownsRow_base (hrow3.kept (grownBy_putObj _ _ _) (ownsRow_ne hrow3 hK3 (fun cur e => by cases e))) (by omega), hb3.grown (grownBy_putObj _ _ _) hb3.size (fun k e => by cases e; omega)⟩
set_option maxHeartbeats 1000000 in
theorem collect_in (n g : Nat) (lb : Array Value) (hn : 3 ≤ n) (eg : ∀ args w, (callFunc g args).run Tryd.prog w = .ok (.enter g args) w) (xs : List (Int × Int)) (hN : xs.length ≤ 1000000000) (w : World) (hseq : Itr (n - 1 - 1) g lb w.heap.size xs w) :
    CallsIn Fence.wide n Tryd.prog 38 #[.func (.func g) #[] lb] w fun e w' => ∃ v, e = .returned v ∧ w'.ownsRow w.heap.size 42 2 v xs.length (pcs xs) ∧ Below w.heap.size w w' := by
  have h1 : 1 ≤ n := by omega
  have h49 : Fence.wide.fn 49 := trivial
  refine callsIn_of_wp Tryd.func38 rfl trivial ?_ rfl
  simp only [Tryd.ntmps38, List.size_toArray, List.length_cons, List.length_nil, Nat.reduceAdd, Nat.reduceSub, Array.replicate_succ, Array.replicate_zero, List.push_toArray, List.append_toArray, List.nil_append, List.cons_append]
  gi_wp2_with (gi_at_call 49; refine (appendSeq_in (n - 1) g lb (by omega) eg xs hN _ hseq).mono ?_; rintro e w' ⟨v, rfl, hrow, hb⟩)
  go_ret
  exact ⟨v, rfl, hrow, hb⟩
end Go.Proofs.YtadfdkhgjjehnaaDoor
