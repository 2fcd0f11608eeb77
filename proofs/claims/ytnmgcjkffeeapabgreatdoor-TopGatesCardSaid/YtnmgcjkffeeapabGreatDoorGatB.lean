/- The contract of the gate's Why. -/
import Derived.Test.YtnmgcjkffeeapabGreatDoorGatA
import Derived.Deep.DeepCutAuto
namespace Go.Proofs.YtnmgcjkffeeapabGreatDoor
open Go.RowKit
set_option linter.unusedVariables false
set_option linter.unusedSimpArgs false
/-- a gate within bounds, n steps on -/
structure GaOk (x : Ga) (n now : Int) : Prop where
  ca : x.ca.ok
  la : x.la.ok n
  lj : x.lj.ok n
  bx : x.bx.ok n
  hn : 0 ≤ now ∧ now ≤ 1000
  l0 : x.last ≤ now
  l1 : x.la.last ≤ now
  l2 : x.lj.last ≤ now
  l3 : x.bx.last ≤ now
/-- the reasons -/
def rz (x : Ga) (now : Int) : Nat → Bool
  | 0 => decide (x.ca.all ≤ x.ca.runs)
  | 1 => x.la.early now
  | 2 => decide (x.ca.most ≤ x.ca.runs)
  | 3 => x.lj.early now
  | 4 => !x.bx.alw now
  | _ => false
/-- the first k reasons, as bits -/
def acc (f : Nat → Bool) : Nat → Int
  | 0 => 0
  | k + 1 => acc f k + (if f k then 2 ^ k else 0)
theorem acc_bd (f : Nat → Bool) : ∀ k, 0 ≤ acc f k ∧ acc f k < 2 ^ k
  | 0 => by simp [acc]
  | k + 1 => by
    have := acc_bd f k
    have h2 : (2 : Int) ^ (k + 1) = 2 ^ k * 2 := Int.pow_succ 2 k
    simp only [acc]
    split <;> omega
theorem acc_t {f : Nat → Bool} {k : Nat} (h : f k = true) : acc f (k + 1) = acc f k + 2 ^ k := by simp [acc, h]
theorem acc_f {f : Nat → Bool} {k : Nat} (h : f k = false) : acc f (k + 1) = acc f k := by simp [acc, h]
theorem or0 : ∀ a : Nat, a < 1 → bits BinOp.or IntKind.i64 (a : Int) 1 = (a : Int) + 1 := by decide
theorem or1 : ∀ a : Nat, a < 2 → bits BinOp.or IntKind.i64 (a : Int) 2 = (a : Int) + 2 := by decide
theorem or2 : ∀ a : Nat, a < 4 → bits BinOp.or IntKind.i64 (a : Int) 4 = (a : Int) + 4 := by decide
theorem or3 : ∀ a : Nat, a < 8 → bits BinOp.or IntKind.i64 (a : Int) 8 = (a : Int) + 8 := by decide
theorem or4 : ∀ a : Nat, a < 16 → bits BinOp.or IntKind.i64 (a : Int) 16 = (a : Int) + 16 := by decide
theorem or_acc0 (f : Nat → Bool) : bits BinOp.or IntKind.i64 (acc f 0) 1 = acc f 0 + 1 := by
  have := acc_bd f 0; have h := or0 (acc f 0).toNat (by omega); rwa [Int.toNat_of_nonneg this.1] at h
theorem or_acc1 (f : Nat → Bool) : bits BinOp.or IntKind.i64 (acc f 1) 2 = acc f 1 + 2 := by
  have := acc_bd f 1; have h := or1 (acc f 1).toNat (by omega); rwa [Int.toNat_of_nonneg this.1] at h
theorem or_acc2 (f : Nat → Bool) : bits BinOp.or IntKind.i64 (acc f 2) 4 = acc f 2 + 4 := by
  have := acc_bd f 2; have h := or2 (acc f 2).toNat (by omega); rwa [Int.toNat_of_nonneg this.1] at h
theorem or_acc3 (f : Nat → Bool) : bits BinOp.or IntKind.i64 (acc f 3) 8 = acc f 3 + 8 := by
  have := acc_bd f 3; have h := or3 (acc f 3).toNat (by omega); rwa [Int.toNat_of_nonneg this.1] at h
theorem or_acc4 (f : Nat → Bool) : bits BinOp.or IntKind.i64 (acc f 4) 16 = acc f 4 + 16 := by
  have := acc_bd f 4; have h := or4 (acc f 4).toNat (by omega); rwa [Int.toNat_of_nonneg this.1] at h
theorem keepc {W w1 : World} {p : Addr} {v : Value} (q : Q W w1) (c : W.cell? p = some v) : w1.cell? p = some v := (q.cell (lt_of_cell c)).trans c
theorem size_heap_alloc' (w : World) (o : Obj) : (w.alloc o).heap.size = w.heap.size + 1 := by simp
theorem cell_new1 (w : World) (v : Value) (t : TypeId) : (w.alloc (.cells #[v] t)).cell? ⟨w.heap.size, 0, none⟩ = some v := by
  rw [World.cell?]
  simp only [heap_alloc_new]
  rfl
theorem boxes3 (w : World) (a b c : Value) (ta tb tc : TypeId) : ∃ W, ((w.alloc (.cells #[a] ta)).alloc (.cells #[b] tb)).alloc (.cells #[c] tc) = W ∧ Q w W ∧ W.cell? ⟨w.heap.size, 0, none⟩ = some a ∧ W.cell? ⟨w.heap.size + 1, 0, none⟩ = some b ∧ W.cell? ⟨w.heap.size + 1 + 1, 0, none⟩ = some c := by
  refine ⟨_, rfl, (((Q.refl w).alloc _).alloc _).alloc _, ?_, ?_, ?_⟩
  · exact keepc (((Q.refl (w.alloc (.cells #[a] ta))).alloc _).alloc _) (cell_new1 w a ta)
  · have := cell_new1 (w.alloc (.cells #[a] ta)) b tb
    simp only [size_heap_alloc'] at this
    exact keepc ((Q.refl _).alloc _) this
  · have := cell_new1 ((w.alloc (.cells #[a] ta)).alloc (.cells #[b] tb)) c tc
    simp only [size_heap_alloc'] at this
    exact this
/-- what the reasons read -/
structure WhyAt (p : Pl) (x : Ga) (now : Int) (P J T U d : Nat) (w0 w : World) : Prop where
  g : GaAt p x w
  cP : w.cell? ⟨P, 0, none⟩ = some (.pointer (some ⟨p.G, 0, none⟩))
  cJ : w.cell? ⟨J, 0, none⟩ = some (.int .i64 0)
  cT : w.cell? ⟨T, 0, none⟩ = some (.int .i64 now)
  cU : w.cell? ⟨U, 0, none⟩ = some (.int .i64 x.ca.runs)
  c0 : w.cell? ⟨d, 0, none⟩ = some (.pointer (some ⟨p.M, 0, none⟩))
  c1 : w.cell? ⟨d, 1, none⟩ = some (.pointer (some ⟨p.B, 0, none⟩))
  q : Q w0 w
theorem WhyAt.q' {p : Pl} {x : Ga} {now : Int} {P J T U d : Nat} {w0 w w' : World} (h : WhyAt p x now P J T U d w0 w) (q : Q w w') : WhyAt p x now P J T U d w0 w' :=
  ⟨h.g.q q, keepc q h.cP, keepc q h.cJ, keepc q h.cT, keepc q h.cU, keepc q h.c0, keepc q h.c1, h.q.trans q⟩
theorem whyat_mk {p : Pl} {x : Ga} {now : Int} {P J T U : Nat} {w W wc V : World} (h : GaAt p x wc) (q0 : Q w W) (qU : Q W wc) (cP : wc.cell? ⟨P, 0, none⟩ = some (.pointer (some ⟨p.G, 0, none⟩))) (cJ : wc.cell? ⟨J, 0, none⟩ = some (.int .i64 0)) (cT : wc.cell? ⟨T, 0, none⟩ = some (.int .i64 now)) (cU : wc.cell? ⟨U, 0, none⟩ = some (.int .i64 x.ca.runs)) (q : Q (wc.alloc (.cells #[.pointer (some ⟨p.M, 0, none⟩), .pointer (some ⟨p.B, 0, none⟩)] 79)) V) : WhyAt p x now P J T U wc.heap.size w V := by
  have q1 : Q wc V := ((Q.refl wc).alloc _).trans q
  refine ⟨h.q q1, keepc q1 cP, keepc q1 cJ, keepc q1 cT, keepc q1 cU, keepc q ?_, keepc q ?_, (q0.trans qU).trans q1⟩
  · rw [World.cell?]; simp only [heap_alloc_new]; rfl
  · rw [World.cell?]; simp only [heap_alloc_new]; rfl
def WhyRel (p : Pl) (x : Ga) (now : Int) (P J T U d : Nat) (w0 : World) (k n : Value) (w : World) : Prop := ∃ i : Nat, ∃ c : Int, c = i ∧ i ≤ 5 ∧ k = .int .i64 c ∧ n = .int .i64 (acc (rz x now) i) ∧ WhyAt p x now P J T U d w0 w
theorem why0_at {p : Pl} {x : Ga} {n now : Int} {P J T U d : Nat} {w0 w : World} (h : WhyAt p x now P J T U d w0 w) (ho : GaOk x n now) : Calls Tryz.prog 32 #[.pointer (some ⟨P, 0, none⟩)] w fun e w' => e = .returned (.bool (rz x now 0)) ∧ WhyAt p x now P J T U d w0 w' :=
  (why1_any p x P w h.g h.cP).mono fun e w' ⟨he, hq⟩ => ⟨he, h.q' hq⟩
theorem why1_at {p : Pl} {x : Ga} {n now : Int} {P J T U d : Nat} {w0 w : World} (h : WhyAt p x now P J T U d w0 w) (ho : GaOk x n now) : Calls Tryz.prog 33 #[.pointer (some ⟨P, 0, none⟩), .pointer (some ⟨T, 0, none⟩)] w fun e w' => e = .returned (.bool (rz x now 1)) ∧ WhyAt p x now P J T U d w0 w' :=
  (why2_any p.L x.la n now p.G P T w h.g.l ho.la ho.hn ho.l1 h.g.g2 h.cP h.cT).mono fun e w' ⟨he, hq⟩ => ⟨he, h.q' hq⟩
theorem why2_at {p : Pl} {x : Ga} {n now : Int} {P J T U d : Nat} {w0 w : World} (h : WhyAt p x now P J T U d w0 w) (ho : GaOk x n now) : Calls Tryz.prog 34 #[.pointer (some ⟨U, 0, none⟩), .pointer (some ⟨P, 0, none⟩), .pointer (some ⟨J, 0, none⟩)] w fun e w' => e = .returned (.bool (rz x now 2)) ∧ WhyAt p x now P J T U d w0 w' :=
  (why3_any p x U P J w h.g h.cU h.cP h.cJ).mono fun e w' ⟨he, hq⟩ => ⟨he, h.q' hq⟩
theorem why3_at {p : Pl} {x : Ga} {n now : Int} {P J T U d : Nat} {w0 w : World} (h : WhyAt p x now P J T U d w0 w) (ho : GaOk x n now) : Calls Tryz.prog 35 #[.pointer (some ⟨d, 0, none⟩), .pointer (some ⟨T, 0, none⟩)] w fun e w' => e = .returned (.bool (rz x now 3)) ∧ WhyAt p x now P J T U d w0 w' :=
  (why4_any p.M x.lj n now d T w h.g.m ho.lj ho.hn ho.l2 h.c0 h.cT).mono fun e w' ⟨he, hq⟩ => ⟨he, h.q' hq⟩
theorem why4_at {p : Pl} {x : Ga} {n now : Int} {P J T U d : Nat} {w0 w : World} (h : WhyAt p x now P J T U d w0 w) (ho : GaOk x n now) : Calls Tryz.prog 36 #[.pointer (some ⟨d, 0, none⟩), .pointer (some ⟨T, 0, none⟩)] w fun e w' => e = .returned (.bool (rz x now 4)) ∧ WhyAt p x now P J T U d w0 w' :=
  (why5_any p.B x.bx n now d T w h.g.b ho.bx h.c1 h.cT).mono fun e w' ⟨he, hq⟩ => ⟨he, h.q' hq⟩
theorem info31 : (Tryz.prog.info? 31).map (·.size) = some 1 := by kernel_rfl
theorem idx0 (v0 v1 v2 v3 v4 : Value) (w : World) : (Instr.index 96 (.agg #[v0, v1, v2, v3, v4]) (.int .i64 0)).run Tryz.prog w = .ok v0 w := by
  cases hq : Tryz.prog.info? 31 with
  | none => have := info31; simp [hq] at this
  | some i =>
    have hs : i.size = 1 := by have := info31; simpa [hq] using this
    simp [Instr.index, run_underlying Tryz.underlying96, asIntOf, sizeOf, typeInfo, hq, hs, go_sem]
theorem idx1 (v0 v1 v2 v3 v4 : Value) (w : World) : (Instr.index 96 (.agg #[v0, v1, v2, v3, v4]) (.int .i64 1)).run Tryz.prog w = .ok v1 w := by
  cases hq : Tryz.prog.info? 31 with
  | none => have := info31; simp [hq] at this
  | some i =>
    have hs : i.size = 1 := by have := info31; simpa [hq] using this
    simp [Instr.index, run_underlying Tryz.underlying96, asIntOf, sizeOf, typeInfo, hq, hs, go_sem]
theorem idx2 (v0 v1 v2 v3 v4 : Value) (w : World) : (Instr.index 96 (.agg #[v0, v1, v2, v3, v4]) (.int .i64 2)).run Tryz.prog w = .ok v2 w := by
  cases hq : Tryz.prog.info? 31 with
  | none => have := info31; simp [hq] at this
  | some i =>
    have hs : i.size = 1 := by have := info31; simpa [hq] using this
    simp [Instr.index, run_underlying Tryz.underlying96, asIntOf, sizeOf, typeInfo, hq, hs, go_sem]
theorem idx3 (v0 v1 v2 v3 v4 : Value) (w : World) : (Instr.index 96 (.agg #[v0, v1, v2, v3, v4]) (.int .i64 3)).run Tryz.prog w = .ok v3 w := by
  cases hq : Tryz.prog.info? 31 with
  | none => have := info31; simp [hq] at this
  | some i =>
    have hs : i.size = 1 := by have := info31; simpa [hq] using this
    simp [Instr.index, run_underlying Tryz.underlying96, asIntOf, sizeOf, typeInfo, hq, hs, go_sem]
theorem idx4 (v0 v1 v2 v3 v4 : Value) (w : World) : (Instr.index 96 (.agg #[v0, v1, v2, v3, v4]) (.int .i64 4)).run Tryz.prog w = .ok v4 w := by
  cases hq : Tryz.prog.info? 31 with
  | none => have := info31; simp [hq] at this
  | some i =>
    have hs : i.size = 1 := by have := info31; simpa [hq] using this
    simp [Instr.index, run_underlying Tryz.underlying96, asIntOf, sizeOf, typeInfo, hq, hs, go_sem]
def HasU (x : Ga) (W : World) (s9 : Value) (w1 : World) : Prop := ∃ U : Nat, s9 = .pointer (some ⟨U, 0, none⟩) ∧ w1.cell? ⟨U, 0, none⟩ = some (.int .i64 x.ca.runs) ∧ Q W w1
set_option maxRecDepth 100000 in
set_option maxHeartbeats 4000000 in
theorem why_any (p : Pl) (x : Ga) (n now : Int) (w : World) (h : GaAt p x w) (ho : GaOk x n now) :
    Calls Tryz.prog 13 #[.pointer (some ⟨p.G, 0, none⟩), .int .i64 0, .int .i64 now] w fun e w' => e = .returned (.tuple #[.int .i64 (acc (rz x now) 5), .int .i64 0]) ∧ Q w w' := by
  have kcall := fun w2 (q : Q w w2) => call_any p x now w2 (h.q q) ho.hn ho.l0
  go_enter Tryz.func13, Tryz.ntmps13
  go_wp2_with (go_at_call 31; (with_reducible refine (kcall _ ?_).mono ?_); (· repeat (first | exact Q.refl _ | assumption | refine Q.alloc ?_ _ | refine Q.drew ?_ | refine Q.drewN ?_ _)); rintro e w1 ⟨rfl, rfl⟩)
  obtain ⟨W, hW, q0, cP, cJ, cT⟩ := boxes3 w (.pointer (some ⟨p.G, 0, none⟩)) (.int .i64 0) (.int .i64 now) 47 3 2
  rw [hW]
  clear hW
  have H := Lib.hid (h.q q0)
  have c0 := H.out.g0
  have ku := fun w2 (q : Q W w2) => used_any p.C x.ca w2 (H.out.c.q q)
  clear h kcall
  have n1 := World.new_ne W _ cP
  have n2 := World.new_ne W _ cJ
  have n3 := World.new_ne W _ c0
  go_cut [9] (fun s9 wx => HasU x W s9 wx)
  case first =>
    go_region_held3 (fun w' => w'.cell? ⟨w.heap.size, 0, none⟩ = some (.pointer (some ⟨p.G, 0, none⟩)) ∧ w'.cell? ⟨w.heap.size + 1, 0, none⟩ = some (.int .i64 0) ∧ w'.cell? ⟨p.G, 0, none⟩ = some (.pointer (some ⟨p.C, 0, none⟩))) (first | go_keep | ((repeat rw [World.cell?_setCell_other _ _ _ _ (by simp)]); assumption) | ((repeat rw [World.cell?_setCell_other _ _ _ _ (by simp)]); go_simp)) (first
      | (go_at_call 11; (with_reducible refine (ku _ ?_).mono ?_); (· repeat (first | exact Q.refl _ | assumption | refine Q.alloc ?_ _ | refine Q.drew ?_ | refine Q.drewN ?_ _)); rintro e w2 ⟨rfl, u2⟩; have t2 : Q W w2 := Q.trans (by repeat (first | exact Q.refl _ | assumption | refine Q.alloc ?_ _ | refine Q.drew ?_ | refine Q.drewN ?_ _)) u2; have e0 := keepc t2 cP; have e1 := keepc t2 cJ; have e2 := keepc t2 c0; have m1 := World.new_ne w2 _ e0; have m2 := World.new_ne w2 _ e1; have m3 := World.new_ne w2 _ e2; obtain ⟨x1, x2, x3⟩ := qcell u2))
    all_goals go_wp2_with fail
    all_goals go_meet
    · exact ⟨_, rfl, cell_new1 _ _ _, t2.alloc _⟩
    · exact ⟨_, rfl, World.cell?_setCell_same _ _ _ ((keepc u2 (cell_new1 W _ 3))), t2.setCell (Nat.le_refl _) _⟩
  case rest =>
    obtain ⟨U, rfl, cU, qU⟩ := hcut
    have H2 := Lib.hid (H.out.q qU)
    have cP2 := keepc qU cP
    have cJ2 := keepc qU cJ
    have cT2 := keepc qU cT
    have g3 := H2.out.g3
    have d0 := H2.out.d0
    have d1 := H2.out.d1
    clear cP cJ cT c0 ku H n1 n2 n3
    go_wp2_with fail
    have n1 := World.new_ne wc _ cP2
    have n2 := World.new_ne wc _ cJ2
    have n3 := World.new_ne wc _ g3
    have n4 := World.new_ne wc _ d0
    go_region_held3 (fun w' => w'.cell? ⟨w.heap.size, 0, none⟩ = some (.pointer (some ⟨p.G, 0, none⟩)) ∧ w'.cell? ⟨w.heap.size + 1, 0, none⟩ = some (.int .i64 0) ∧ w'.cell? ⟨p.G, 3, none⟩ = some (.slice (some ⟨p.D, 0, none⟩) 1 p.dc) ∧ w'.cell? ⟨p.D, 0, none⟩ = some (.pointer (some ⟨p.M, 0, none⟩)) ∧ w'.cell? ⟨p.D, 1, none⟩ = some (.pointer (some ⟨p.B, 0, none⟩))) (go_keep) (fail)
    go_wp2_with fail
    have hst : ∀ V, Q (wc.alloc (.cells #[.pointer (some ⟨p.M, 0, none⟩), .pointer (some ⟨p.B, 0, none⟩)] 79)) V → WhyAt p x now w.heap.size (w.heap.size + 1) (w.heap.size + 1 + 1) U wc.heap.size w V := fun V q => whyat_mk H2.out q0 qU cP2 cJ2 cT2 cU q
    clear cP2 cJ2 cT2 g3 d0 d1 n1 n2 n3 n4 cU
    go_loopw [46, 13] (fun s46 s13 wr => WhyRel p x now w.heap.size (w.heap.size + 1) (w.heap.size + 1 + 1) U wc.heap.size w s46 s13 wr) (fun s46 _ _ => 5 - (intOf s46).toNat)
    case atStart => exact ⟨0, 0, rfl, by omega, rfl, rfl, hst _ (by repeat (first | exact Q.refl _ | assumption | refine Q.alloc ?_ _ | refine Q.drew ?_ | refine Q.drewN ?_ _))⟩
    case round =>
      obtain ⟨i, c, hc, hi, rfl, rfl, hw⟩ := hrel
      clear hst
      obtain rfl | rfl | rfl | rfl | rfl | rfl : i = 0 ∨ i = 1 ∨ i = 2 ∨ i = 3 ∨ i = 4 ∨ i = 5 := by omega
      · obtain rfl : c = 0 := by simpa using hc
        have k := why0_at hw ho
        have hx := idx0
        have hor := or_acc0 (rz x now)
        have ht := @acc_t (rz x now) 0
        have hf := @acc_f (rz x now) 0
        obtain ⟨a, ha⟩ : ∃ a, acc (rz x now) 0 = a := ⟨_, rfl⟩
        rw [ha] at hor ht hf ⊢
        clear ha hc
        cases hb : rz x now 0
        · have HB := Lib.hid (hf hb)
          rw [hb] at k
          clear hb hf ht hor hw
          go_wp2_with (go_at_call 32; (with_reducible refine k.mono ?_); rintro e w5 ⟨rfl, hw5⟩)
          go_roundw
          case rel => exact ⟨1, 1, rfl, by omega, rfl, by rw [HB.out], hw5⟩
          case measure => simp [intOf]
        · have HB := Lib.hid (ht hb)
          rw [hb] at k
          clear hb hf ht hw
          go_wp2_with (go_at_call 32; (with_reducible refine k.mono ?_); rintro e w5 ⟨rfl, hw5⟩)
          go_roundw
          case rel => exact ⟨1, 1, rfl, by omega, rfl, by rw [HB.out]; rfl, hw5⟩
          case measure => simp [intOf]
      · obtain rfl : c = 1 := by simpa using hc
        have k := why1_at hw ho
        have hx := idx1
        have hor := or_acc1 (rz x now)
        have ht := @acc_t (rz x now) 1
        have hf := @acc_f (rz x now) 1
        obtain ⟨a, ha⟩ : ∃ a, acc (rz x now) 1 = a := ⟨_, rfl⟩
        rw [ha] at hor ht hf ⊢
        clear ha hc
        cases hb : rz x now 1
        · have HB := Lib.hid (hf hb)
          rw [hb] at k
          clear hb hf ht hor hw
          go_wp2_with (go_at_call 33; (with_reducible refine k.mono ?_); rintro e w5 ⟨rfl, hw5⟩)
          go_roundw
          case rel => exact ⟨2, 2, rfl, by omega, rfl, by rw [HB.out], hw5⟩
          case measure => simp [intOf]
        · have HB := Lib.hid (ht hb)
          rw [hb] at k
          clear hb hf ht hw
          go_wp2_with (go_at_call 33; (with_reducible refine k.mono ?_); rintro e w5 ⟨rfl, hw5⟩)
          go_roundw
          case rel => exact ⟨2, 2, rfl, by omega, rfl, by rw [HB.out]; rfl, hw5⟩
          case measure => simp [intOf]
      · obtain rfl : c = 2 := by simpa using hc
        have k := why2_at hw ho
        have hx := idx2
        have hor := or_acc2 (rz x now)
        have ht := @acc_t (rz x now) 2
        have hf := @acc_f (rz x now) 2
        obtain ⟨a, ha⟩ : ∃ a, acc (rz x now) 2 = a := ⟨_, rfl⟩
        rw [ha] at hor ht hf ⊢
        clear ha hc
        cases hb : rz x now 2
        · have HB := Lib.hid (hf hb)
          rw [hb] at k
          clear hb hf ht hor hw
          go_wp2_with (go_at_call 34; (with_reducible refine k.mono ?_); rintro e w5 ⟨rfl, hw5⟩)
          go_roundw
          case rel => exact ⟨3, 3, rfl, by omega, rfl, by rw [HB.out], hw5⟩
          case measure => simp [intOf]
        · have HB := Lib.hid (ht hb)
          rw [hb] at k
          clear hb hf ht hw
          go_wp2_with (go_at_call 34; (with_reducible refine k.mono ?_); rintro e w5 ⟨rfl, hw5⟩)
          go_roundw
          case rel => exact ⟨3, 3, rfl, by omega, rfl, by rw [HB.out]; rfl, hw5⟩
          case measure => simp [intOf]
      · obtain rfl : c = 3 := by simpa using hc
        have k := why3_at hw ho
        have hx := idx3
        have hor := or_acc3 (rz x now)
        have ht := @acc_t (rz x now) 3
        have hf := @acc_f (rz x now) 3
        obtain ⟨a, ha⟩ : ∃ a, acc (rz x now) 3 = a := ⟨_, rfl⟩
        rw [ha] at hor ht hf ⊢
        clear ha hc
        cases hb : rz x now 3
        · have HB := Lib.hid (hf hb)
          rw [hb] at k
          clear hb hf ht hor hw
          go_wp2_with (go_at_call 35; (with_reducible refine k.mono ?_); rintro e w5 ⟨rfl, hw5⟩)
          go_roundw
          case rel => exact ⟨4, 4, rfl, by omega, rfl, by rw [HB.out], hw5⟩
          case measure => simp [intOf]
        · have HB := Lib.hid (ht hb)
          rw [hb] at k
          clear hb hf ht hw
          go_wp2_with (go_at_call 35; (with_reducible refine k.mono ?_); rintro e w5 ⟨rfl, hw5⟩)
          go_roundw
          case rel => exact ⟨4, 4, rfl, by omega, rfl, by rw [HB.out]; rfl, hw5⟩
          case measure => simp [intOf]
      · obtain rfl : c = 4 := by simpa using hc
        have k := why4_at hw ho
        have hx := idx4
        have hor := or_acc4 (rz x now)
        have ht := @acc_t (rz x now) 4
        have hf := @acc_f (rz x now) 4
        obtain ⟨a, ha⟩ : ∃ a, acc (rz x now) 4 = a := ⟨_, rfl⟩
        rw [ha] at hor ht hf ⊢
        clear ha hc
        cases hb : rz x now 4
        · have HB := Lib.hid (hf hb)
          rw [hb] at k
          clear hb hf ht hor hw
          go_wp2_with (go_at_call 36; (with_reducible refine k.mono ?_); rintro e w5 ⟨rfl, hw5⟩)
          go_roundw
          case rel => exact ⟨5, 5, rfl, by omega, rfl, by rw [HB.out], hw5⟩
          case measure => simp [intOf]
        · have HB := Lib.hid (ht hb)
          rw [hb] at k
          clear hb hf ht hw
          go_wp2_with (go_at_call 36; (with_reducible refine k.mono ?_); rintro e w5 ⟨rfl, hw5⟩)
          go_roundw
          case rel => exact ⟨5, 5, rfl, by omega, rfl, by rw [HB.out]; rfl, hw5⟩
          case measure => simp [intOf]
      · obtain rfl : c = 5 := by simpa using hc
        clear hc hi
        obtain ⟨a, ha⟩ : ∃ a, acc (rz x now) 5 = a := ⟨_, rfl⟩
        have HA := Lib.hid ha
        rw [ha]
        clear ha
        go_wp2_with fail
        go_ret2
        exact ⟨by rw [HA.out]; rfl, hw.q⟩
end Go.Proofs.YtnmgcjkffeeapabGreatDoor
