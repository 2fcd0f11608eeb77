/- The calls of the law Known, each by itself. -/
import Derived.Test.YtadfdkhgjjehnaaDoorLawH
import Derived.Test.YtadfdkhgjjehnaaDoorMisN
namespace Go.Proofs.YtadfdkhgjjehnaaDoor
open Go.RowKit
set_option linter.unusedVariables false
set_option linter.unusedSimpArgs false
theorem kn_keep (a : Option Addr) (c : Nat) (hc : 3 ≤ c) (w : World) (h : Sl a [3, 5, 9] w) : Calls Tryd.prog 15 #[.int .i64 1, .int .i64 0, .slice a 3 c] w fun e w' =>
    ∃ a1 c1 a2 c2, e = .returned (.tuple #[.slice a1 1 c1, .slice a2 2 c2, .int .i64 0]) ∧ Sl a1 [9] w' ∧ Sl a2 [3, 5] w' ∧ Q w w' := by
  refine (keep_any 1 0 a [3, 5, 9] 3 c rfl (by decide) hc w h).mono ?_
  rintro e w' ⟨v1, v2, rfl, ht, hq⟩
  have e0 : keepE 1 0 [3, 5, 9] = 0 := by decide
  have e1 : keepK 1 0 [3, 5, 9] = [9] := by decide
  have e2 : keepD 1 0 [3, 5, 9] = [3, 5] := by decide
  rw [e1, e2] at ht
  obtain ⟨a1, c1, rfl, s1, _⟩ := own_sl ht.1
  obtain ⟨a2, c2, rfl, s2, _⟩ := own_sl ht.2.1
  exact ⟨a1, c1, a2, c2, by rw [e0]; rfl, s1, s2, hq⟩
/-- Keep, of which the error alone is looked at -/
theorem kn_keepE (p k : Int) (a : Option Addr) (xs : List Int) (n c : Nat) (x : Int) (hx : keepE p k xs = x) (hn : xs.length = n) (hb : n ≤ 1000000000) (hc : n ≤ c) (w : World) (h : Sl a xs w) :
    Calls Tryd.prog 15 #[.int .i64 p, .int .i64 k, .slice a n c] w fun e w' => ∃ v1 v2, e = .returned (.tuple #[v1, v2, .int .i64 x]) ∧ Q w w' := by
  refine (keep_any p k a xs n c hn hb hc w h).mono ?_
  rintro e w' ⟨v1, v2, rfl, ht, hq⟩
  exact ⟨v1, v2, by rw [hx], hq⟩
theorem kn_join (a b : Option Addr) (c d : Nat) (z1 : a = none → c = 0) (z2 : b = none → d = 0) (w : World) (h : Sl a [3, 5] w) (g : Sl b [9] w) : Calls Tryd.prog 26 #[.int .i64 3, .int .i64 2, .slice a 2 c, .slice b 1 d] w fun e w' =>
    ∃ a1 c1, e = .returned (.tuple #[.slice a1 2 c1, .int .i64 0]) ∧ Sl a1 [5, 9] w' ∧ Q w w' := by
  refine (join_any 3 2 a b 2 1 c d [3, 5] [9] rfl rfl (by decide) (by decide) z1 z2 w h g).mono ?_
  rintro e w' ⟨v, rfl, ht, hq⟩
  have e0 : joinE 3 2 [3, 5] [9] = 0 := by
    rw [joinE_ok (by decide) (by unfold crs; decide)]; decide
  have e1 : joinK 3 2 [3, 5] [9] = [5, 9] := by
    unfold joinK; rw [if_pos e0]; decide
  rw [e1] at ht
  obtain ⟨a1, c1, rfl, s1, _⟩ := own_all (n := 2) rfl ht
  exact ⟨a1, c1, by rw [e0], s1, hq⟩
/-- Join, of which the error alone is looked at -/
theorem kn_joinE (p k : Int) (a1 a2 : Option Addr) (n1 n2 c1 c2 : Nat) (xs ys : List Int) (x : Int) (hx : joinE p k xs ys = x) (e1 : xs.length = n1) (e2 : ys.length = n2) (h1 : n1 ≤ 100000000) (h2 : n2 ≤ 100000000) (z1 : a1 = none → c1 = 0) (z2 : a2 = none → c2 = 0) (w : World) (s1 : Sl a1 xs w) (s2 : Sl a2 ys w) :
    Calls Tryd.prog 26 #[.int .i64 p, .int .i64 k, .slice a1 n1 c1, .slice a2 n2 c2] w fun e w' => ∃ v, e = .returned (.tuple #[v, .int .i64 x]) ∧ Q w w' := by
  refine (join_any p k a1 a2 n1 n2 c1 c2 xs ys e1 e2 h1 h2 z1 z2 w s1 s2).mono ?_
  rintro e w' ⟨v, rfl, ht, hq⟩
  exact ⟨v, by rw [hx], hq⟩
theorem kn_j2 : joinE 2 0 [3, 5] [5] = 8 := joinE_crs (by decide) (by unfold crs; decide)
theorem kn_j3 : joinE 2 0 [9] [-1] = 14 := by rw [joinE_bad (by decide)]; decide
theorem kn_jbad {p k : Int} (h : Mf.chkE p k = 2) : joinE p k [] [] = 2 := by
  have e : Mf.or3 (Mf.chkE p k) (Mf.listE []) (Mf.listE []) = 2 := by rw [h]; rfl
  rw [joinE_bad (by rw [e]; decide), e]
theorem kn_kbad {p k : Int} (h : Mf.chkE p k = 2) (xs : List Int) : keepE p k xs = 2 := by unfold keepE; rw [h]; rfl
theorem kn_count {p k : Int} (h : Mf.chkE p k = 2) (w : World) : Calls Tryd.prog 17 #[.int .i64 p, .int .i64 k, .int .i64 (-1)] w fun e w' => e = .returned (.tuple #[.int .i64 0, .int .i64 0, .int .i64 2]) ∧ Q w w' := by
  refine (count_any p k (-1) (by decide) w).mono ?_
  rintro e w' ⟨rfl, hq⟩
  refine ⟨?_, hq⟩
  unfold cntM cntD cntE
  rw [if_neg (by omega), if_neg (by omega), if_neg (by omega)]
theorem kn_kmany : keepE 0 0 (List.replicate 100001 0) = 12 := by
  unfold keepE
  rw [Mf.listE_many (by rw [List.length_replicate]; decide)]
  rfl
theorem kn_k14 : keepE 0 0 [5, 5, -1] = 14 := by decide
theorem kn_k8 : keepE 0 0 [5, 5] = 8 := by decide
/-- Order, of which the error alone is looked at -/
theorem kn_orderE (a : Option Addr) (L : List (List Int)) (n c : Nat) (x : Int) (hx : Mf.ordE L = x) (hn : L.length = n) (hn64 : n ≤ 1000000) (hln : ∀ j, j < n → Mf.ln L j ≤ 1000000000) (w : World) (h : Lm a L w) :
    Calls Tryd.prog 22 #[.slice a n c] w fun e w' => ∃ v, e = .returned (.tuple #[v, .int .i64 x]) ∧ Q w w' := by
  refine (order_any a L n c hn hn64 hln w h).mono ?_
  rintro e w' ⟨v, rfl, hr, hq⟩
  exact ⟨v, by rw [hx], hq⟩
theorem kn_o65 : Mf.ordE (List.replicate 65 []) = 12 := Mf.ordE_many (by rw [List.length_replicate]; decide)
theorem kn_o8 : Mf.ordE [[3, 2], [-1]] = 8 := by decide
theorem kn_o64 : Mf.ordE (List.replicate 64 []) = 0 ∧ Mf.ordM (List.replicate 64 []) = [] := by
  constructor <;> decide +kernel
theorem rep_row (n j : Nat) : Mf.row (List.replicate n []) j = [] := by
  unfold Mf.row
  rw [List.getD_eq_getElem?_getD, List.getElem?_replicate]
  split <;> rfl
theorem kn_order64 (a : Option Addr) (c : Nat) (w : World) (h : Lm a (List.replicate 64 []) w) :
    Calls Tryd.prog 22 #[.slice a 64 c] w fun e w' => ∃ a1 c1, e = .returned (.tuple #[.slice a1 0 c1, .int .i64 0]) ∧ Q w w' := by
  refine (order_any a (List.replicate 64 []) 64 c (by rw [List.length_replicate]) (by decide) (fun j hj => by
    unfold Mf.ln
    rw [rep_row]
    decide) w h).mono ?_
  rintro e w' ⟨v, rfl, hr, hq⟩
  rw [kn_o64.2] at hr
  obtain ⟨a1, c1, rfl, s1, _⟩ := own_pl hr
  exact ⟨a1, c1, by rw [kn_o64.1]; rfl, hq⟩
/-- the first numbers -/
def upN (n : Nat) : List Int := (List.range n).map fun (i : Nat) => (i : Int)
theorem upN_len (n : Nat) : (upN n).length = n := by simp [upN]
theorem upN_get {n i : Nat} (h : i < n) : (upN n).getD i 0 = i := by simp [upN, List.getD, h]
theorem upN_ok {n : Nat} (h : n ≤ 100000) : Mf.listE (upN n) = 0 := by
  rw [Mf.listE_end (by rw [upN_len]; exact h) (fun i hi => by rw [upN_len] at hi; rw [upN_get hi]; omega), if_pos]
  intro i hi
  rw [upN_len] at hi
  rw [upN_get (by omega), upN_get (by omega)]
  omega
theorem ord_two {xs : List Int} (h : Mf.listE xs = 0) (h2 : 100000 < xs.length + xs.length) : Mf.ordE [xs, xs] = 12 := by
  refine Mf.ordE_big (by show 2 ≤ 64; decide) ?_ ?_
  · show Mf.or2 (Mf.or2 0 (Mf.listE xs)) (Mf.listE xs) = 0
    rw [h]; rfl
  · show 100000 < 0 + xs.length + xs.length
    omega
theorem kn_o2 : Mf.ordE [upN 50001, upN 50001] = 12 := ord_two (upN_ok (by decide)) (by rw [upN_len]; decide)
theorem keepK_last {xs : List Int} {x : Int} (h : Mf.listE (xs ++ [x]) = 0) : keepK 1 0 ([] ++ (xs ++ [x])) = [x] := by
  have ek : keepE 1 0 (xs ++ [x]) = 0 := by unfold keepE; rw [h]; rfl
  rw [List.nil_append]
  unfold keepK
  rw [if_pos ek]
  have : drp 1 0 (xs ++ [x]).length = xs.length := by
    unfold drp Mf.kept
    rw [if_neg (by decide), if_pos rfl, List.length_append]
    simp
    omega
  rw [this, List.drop_left' rfl]
theorem joinE_last {xs : List Int} (h : Mf.listE xs = 0) : joinE 1 0 [] xs = 0 := by
  rw [joinE_ok (by rw [h]; rfl) (by rintro ⟨h, _⟩; exact absurd h (by decide)), List.nil_append]
  unfold keepE; rw [h]; rfl
theorem upN_succ (n : Nat) : upN (n + 1) = upN n ++ [(n : Int)] := by
  unfold upN; rw [List.range_succ, List.map_append]; rfl
theorem kn_lastN (n : Nat) (hn : n + 1 ≤ 100000) (b : Option Addr) (d : Nat) (z2 : b = none → d = 0) (w : World) (g : Sl b (upN (n + 1)) w) : Calls Tryd.prog 26 #[.int .i64 1, .int .i64 0, .slice none 0 0, .slice b (n + 1) d] w fun e w' =>
    ∃ a1 c1, e = .returned (.tuple #[.slice a1 1 c1, .int .i64 0]) ∧ Sl a1 [(n : Int)] w' ∧ Q w w' := by
  refine (join_any 1 0 none b 0 (n + 1) 0 d [] (upN (n + 1)) rfl (upN_len _) (by decide) (by omega) (fun _ => rfl) z2 w (Or.inl rfl) g).mono ?_
  rintro e w' ⟨v, rfl, ht, hq⟩
  have e0 : joinE 1 0 [] (upN (n + 1)) = 0 := joinE_last (upN_ok hn)
  have e1 : joinK 1 0 [] (upN (n + 1)) = [(n : Int)] := by
    unfold joinK
    rw [if_pos e0, upN_succ, keepK_last (by rw [← upN_succ]; exact upN_ok hn)]
  rw [e1] at ht
  obtain ⟨a1, c1, rfl, s1, _⟩ := own_all (n := 1) rfl ht
  exact ⟨a1, c1, by rw [e0], s1, hq⟩
theorem kn_last (b : Option Addr) (d : Nat) (z2 : b = none → d = 0) (w : World) (g : Sl b (upN 50001) w) : Calls Tryd.prog 26 #[.int .i64 1, .int .i64 0, .slice none 0 0, .slice b 50001 d] w fun e w' =>
    ∃ a1 c1, e = .returned (.tuple #[.slice a1 1 c1, .int .i64 0]) ∧ Sl a1 [50000] w' ∧ Q w w' := kn_lastN 50000 (by decide) b d z2 w g
theorem is_all : Is ⟨#[97, 108, 108]⟩ 2 0 := ⟨by decide, rfl⟩
theorem not_012 : ∀ q m, ¬ Is ⟨#[115, 111, 109, 101, 58, 48, 49, 50]⟩ q m := by
  intro q m h
  rw [show (⟨#[115, 111, 109, 101, 58, 48, 49, 50]⟩ : ByteArray) = ⟨#[115, 111, 109, 101, 58]⟩ ++ ⟨#[48, 49, 50]⟩ from by decide] at h
  obtain ⟨rfl, b, c⟩ := is_some_iff h
  have h3 := congrArg ByteArray.size c
  rw [dgs_size] at h3
  have h4 : (⟨#[48, 49, 50]⟩ : ByteArray).size = 3 := rfl
  have h5 : m = 100 := by
    rw [h4] at h3
    unfold nz at h3
    (repeat' split at h3) <;> omega
  subst h5
  revert c
  decide +kernel
end Go.Proofs.YtadfdkhgjjehnaaDoor
