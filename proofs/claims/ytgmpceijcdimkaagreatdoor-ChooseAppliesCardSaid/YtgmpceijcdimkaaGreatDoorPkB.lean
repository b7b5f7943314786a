/- Texts of mine, many in one. No statement of the seat is proved here. -/
import Derived.Test.YtgmpceijcdimkaaGreatDoorPkA
import Derived.Test.YtgmpceijcdimkaaGreatDoorSxH
set_option linter.unusedSimpArgs false
set_option linter.unusedVariables false
namespace Go.Proofs.YtgmpceijcdimkaaGreatDoor
open Go Go.Sx

/-- May a number be? -/
def C1e (n : Num) : Bool := if n.1 then decide (n.2 = 0) else decide (-9223372036854775808 < n.2)

theorem C1n (n : Num) (h : -9223372036854775808 ≤ n.2) : Meets Tryz.prog E0 A13 [.ag [Bo n.1, I n.2]] [] (Bo (!okN n.1 n.2)) [] := by
 refine X6 C1g ?_
 have hR := B10 n.1 n.2 h
 unfold okN
 cases h1 : n.1
 ·rw [h1, if_neg (by decide)] at hR
  simp only [go_sem, A5r]
  refine A6 hR ?_
  simp only [go_sem]
  refine wE ?_
  simp only [go_sem, A62]
 ·simp only [go_sem, A5r]
  refine wE ?_
  simp only [go_sem, A62]

theorem C1u (n : Num) (h : -9223372036854775808 ≤ n.2) : Meets Tryz.prog E0 A33 [.ag [Bo n.1, I n.2]] [] (Bo (!okN n.1 n.2)) [] := by
 refine X6 C1v ?_
 have hR := B10 n.1 n.2 h
 unfold okN
 cases h1 : n.1
 ·rw [h1, if_neg (by decide)] at hR
  simp only [go_sem, A5y]
  refine A6 hR ?_
  simp only [go_sem]
  refine wE ?_
  simp only [go_sem, A5t]
 ·simp only [go_sem, A5y]
  refine wE ?_
  simp only [go_sem, A5t]

theorem D3y (c : Option Addr) (n : Nat) : Meets Tryz.prog E0 E7 [.t (.v (.slice c 0 n))] [] (.t (.sl 2 [])) [] := by
 refine X6 U1 ?_
 cases c with
 | none =>
  simp only [go_sem, M0, Option.isNone_none]
  refine wS [] ?_
  simp only [go_sem, L8, exists_eq_left', Option.some.injEq]
  simp [G1, G2, B1, AV.asOwn, B3, A9, AV.isNil, J8, B6, B4, B8]
 | some c =>
  simp only [go_sem, M0, Option.isNone_some, show 0 * 16 ≤ 2 ^ 47 from by decide, show 0 < 2 ^ 47 from by decide]
  refine wS [106] ?_
  simp only [go_sem, L8, exists_eq_left', Option.some.injEq]
  simp [G1, G2, B1, AV.asOwn, B3, A9, AV.isNil, J8, B6, B4, B8]

theorem B8t : Meets Tryz.prog E0 E7 [.t (.sl 2 [])] [] (.t (.sl 2 [])) [] :=
 Meets.of_empty (xs := []) (ys := []) D3y

theorem C97 (id : Nat) (e : List T) (es : List (List T)) (hl : es.length ≤ 1000000000) : Meets Tryz.prog E0 E7 [.t (.sl 2 (e :: es))] [] (.own id 2 0 (es.length + 1) true) [(id, .row 2 true (e :: es))] := by
 have h0 : Meets Tryz.prog E0 E7 [.t (.sl 2 (e :: es))] [] (.own 0 2 0 (es.length + 1) true) [(0, .row 2 true (e :: es))] := by
  have h1 : (es.length + 1) * 16 ≤ 2 ^ 47 := by omega
  have h2 : es.length + 1 < 2 ^ 47 := by omega
  refine U1 (by simp) (C2 (by simp [B5, AV.ids, A4]) (by simp [Ob.live, Ob.ids, A4, B5, AV.ids])) (C2 (by simp [B5, AV.ids, A4]) (by simp [Ob.live, Ob.ids, A4, B5, AV.ids])) (by simp [A4]) (by simp [A4]) ?_
  simp only [go_sem, M0, h1, h2]
  refine wO [(0, 106)] [] ?_
  simp only [go_sem, L8, exists_eq_left', Option.some.injEq]
  simp [G1, G2, B1, AV.asOwn, B3, A9, AV.isNil, J8, B6, B4, B8, ren]
 have := h0.ren (fun _ => id) (by simp [A4])
 simpa [A1y, A0z, A6i, A6v] using this

theorem D2v (g : Nat) : Meets Tryz.prog E0 M5 [.t (.sl 2 []), .fn g [] []] [] (.t (.sl 2 [])) [] := by
 refine X6 Y2 ?_
 have h := D14 g (fun _ => false) [] (by decide) (by simp)
 have d1 : decide ((-1 : Int) = -1) = true := rfl
 have e : A4q (fun _ : Num => false) [] 0 = -1 := rfl
 rw [e] at h
 simp only [go_sem, M7]
 refine A6 h ?_
 simp only [go_sem, d1]
 refine wE ?_
 simp only [go_sem, M4]

theorem E0j (l : List Num) : A03 (fun n : Num => !okN n.1 n.2) l = l.filter fun n => okN n.1 n.2 := by
 unfold A03; congr 1; funext n; rw [Bool.not_not]

theorem C5h (l : List Num) (hl : l.length ≤ 100000) (h : ∀ n ∈ l, inN n) : Meets Tryz.prog E0 A8l [M6 l] [] (M6 (l.filter fun n => okN n.1 n.2)) [] := by
 refine X6 C49 ?_
 cases l with
 | nil =>
  simp only [go_sem, A92]
  refine A6 B8t ?_
  simp only [go_sem]
  refine A6 (D2v A13) ?_
  simp only [go_sem]
  refine wE ?_
  simp only [go_sem, A8i]
  first | done | rfl
 | cons a l =>
  have hc := C97 700 (D7 a) (l.map D7) (by simp at hl ⊢; omega)
  have hd := (D8t A13 (fun n => !okN n.1 n.2) (a :: l) hl (fun s hs => C1n s (h s hs).1)).ren (fun _ => 700) (by simp [A4])
  simp only [A1y, A0z, A6i, A6v] at hd
  rw [List.length_map] at hc
  rw [E0j] at hd
  have hle : ((a :: l).filter fun n => okN n.1 n.2).length ≤ l.length + 1 := List.length_filter_le _ _
  simp only [List.map_cons, List.length_cons] at hd ⊢
  generalize (a :: l).filter (fun n => okN n.1 n.2) = k at *
  simp only [go_sem, A92]
  refine C18 hc (by simp [A4, A9]) (by simp [A4]) ?_
  simp only [go_sem]
  refine oB (hd) ?_
  simp only [go_sem]
  refine wS [700] ?_
  simp only [go_sem, A8i, exists_eq_left', Option.some.injEq]
  simp [G1, G2, B1, AV.asOwn, B3, A9, AV.isNil, J8, B6, B4, B8]

theorem D9q (l : List Num) : (l.filter fun n => okN n.1 n.2) = (kvM l).map fun v => (false, v) := by
 unfold kvM
 rw [List.map_map]
 induction l with
 | nil => rfl
 | cons n l ih =>
  by_cases h : okN n.1 n.2 = true
  ·rw [List.filter_cons_of_pos (by exact h), List.map_cons, ← ih]
   obtain ⟨a, b⟩ := n
   obtain ⟨_, h2, _⟩ := S9 h
   simp only at h2
   subst h2
   rfl
  ·rw [List.filter_cons_of_neg (by simpa using h)]
   exact ih

def kL (k : List Int) : AV := .t (.sl 2 (k.map fun v => [.v (.bool false), .v (.int .i64 v)]))

theorem E35 (l : List Num) : M6 (l.filter fun n => okN n.1 n.2) = kL (kvM l) := by
 rw [D9q]; unfold kL; rw [M6, List.map_map]; rfl

theorem A74 (g : Nat) (two : Option Int → Option Int → Option Int) (hg : ∀ a y, Rt a → -9223372036854775808 < y → y < 9223372036854775808 → Meets Tryz.prog E0 g [NO a, NV false y] [] (NO (two a (some y))) []) (h2 : ∀ a b, Rt a → Rt b → Rt (two a b))
  (x : Int) (k : List Int) (hk : ∀ y ∈ x :: k, -9223372036854775808 < y ∧ y < 9223372036854775808) (hl : k.length ≤ 100000) : Meets Tryz.prog E0 A0h [kL (x :: k), .fn g [] []] [] (NO (B9d two (x :: k))) [] := by
 refine X6 C3r ?_
 unfold kL B9d
 have c1 : ((1 : Int) ≤ ((k.length + 1 : Nat) : Int)) = True := eq_true (by omega)
 have hz : (k.map fun v => [T.v (.bool false), .v (.int .i64 v)]).length = k.length := by simp
 have hn1 : (((k.length + 1 : Nat) : Int) - 1).toNat = k.length := by omega
 have htk : List.take k.length (k.map fun v => [T.v (.bool false), .v (.int .i64 v)]) = k.map fun v => [T.v (.bool false), .v (.int .i64 v)] := List.take_of_length_le (by simp)
 simp only [go_sem, B4a, hz, c1, hn1, htk]
 refine C8 (fun j : Nat => k.length - j) (fun j => j ≤ k.length)
  (fun j => [(1, .fn g [] []), (4, .ptr 100 0), (5, .ptr 104 0), (12, .t (.sl 2 (k.map fun v => [.v (.bool false), .v (.int .i64 v)]))), (13, I k.length), (14, I j)])
  (fun j => [(104, .box [Bo (V3 two (some x) (k.take j)).isNone, I ((V3 two (some x) (k.take j)).getD 0)]), (100, .box [Bo false, I 0])]) 0 (Nat.zero_le _) ?_ ?_
 ·simp only [List.take_zero, show V3 two (some x) [] = some x from rfl, Option.isNone_some, Option.getD_some]
  exact (sR [] [])
 intro j hj
 have hrt : Rt (V3 two (some x) (k.take j)) := B66 h2 _ _ (B8z (hk x (by simp))) (fun y hy => hk y (List.mem_cons_of_mem _ (List.mem_of_mem_take hy)))
 by_cases hjl : j < k.length
 ·have d0 : decide (j < k.length) = true := decide_eq_true hjl
  obtain ⟨y, hy⟩ := F0 hjl
  have hyk := hk y (List.mem_cons_of_mem _ (List.mem_of_getElem? hy))
  have hgy : (k.map fun v => [T.v (.bool false), T.v (.int .i64 v)])[j]? = some [.v (.bool false), .v (.int .i64 y)] := by rw [List.getElem?_map, hy]; rfl
  have ej : IntKind.i64.wrap ((j : Int) + 1) = ((j + 1 : Nat) : Int) := by rw [A5 (by omega) (by omega)]; omega
  have hs : V3 two (some x) (k.take (j + 1)) = two (V3 two (some x) (k.take j)) (some y) := by
   rw [List.take_add_one, hy]; exact C79 two (some x) _ y
  have hc := hg (V3 two (some x) (k.take j)) y hrt hyk.1 hyk.2
  simp only [go_sem, d0, hgy]
  refine A6 hc ?_
  simp only [go_sem, ej]
  refine C3 (j + 1) (by first | omega | (simp only; omega)) hjl ?_
  simp only [hs]
  exact (sR [] [])
 ·obtain rfl : j = k.length := by omega
  have d0 : decide (k.length < k.length) = false := decide_eq_false (by omega)
  rw [List.take_length]
  simp only [go_sem, d0]
  refine wE ?_
  simp only [go_sem, B3v]

theorem E3e (a : Option Int) (y : Int) (ha : Rt a) (h1 : -9223372036854775808 < y) (h2 : y < 9223372036854775808) : Meets Tryz.prog E0 A4i [NO a, NV false y] [] (NO (A71 a (some y))) [] := by
 have := D0a a.isNone false (a.getD 0) y ha.lo ha.hi (by omega) h2
 rw [ha.val, B4t h1] at this
 exact this
theorem E1k (a : Option Int) (y : Int) (ha : Rt a) (h1 : -9223372036854775808 < y) (h2 : y < 9223372036854775808) : Meets Tryz.prog E0 A55 [NO a, NV false y] [] (NO (A31 a (some y))) [] := by
 have := C8l a.isNone false (a.getD 0) y
 rw [ha.val, B4t h1] at this
 exact this
theorem E1u (a : Option Int) (y : Int) (ha : Rt a) (h1 : -9223372036854775808 < y) (h2 : y < 9223372036854775808) : Meets Tryz.prog E0 A5h [NO a, NV false y] [] (NO (A2x a (some y))) [] := by
 have := C9c a.isNone false (a.getD 0) y
 rw [ha.val, B4t h1] at this
 exact this

theorem C3q (w : Int) (l : List Num) (hl : l.length ≤ 100000) (h : ∀ n ∈ l, inN n) : Meets Tryz.prog E0 A7f [I w, M6 l] [] (NO (T6 w l)) [] := by
 refine X6 C3k ?_
 have hK := C5h l hl h
 have hki := D7u h
 have hkl : (kvM l).length ≤ l.length := by unfold kvM; rw [List.length_map]; exact List.length_filter_le _ _
 rw [E35] at hK
 unfold T6
 generalize kvM l = k at *
 simp only [go_sem, B41]
 refine A6 hK ?_
 cases k with
 | nil =>
  have d0 : decide (((0 : Nat) : Int) = 0) = true := rfl
  unfold kL B95
  rw [if_pos rfl]
  simp only [go_sem, d0]
  refine wE ?_
  simp only [go_sem, T7]
  first | done | rfl
 | cons x k =>
  have hzk : (k.map fun v => [T.v (.bool false), T.v (.int .i64 v)]).length = k.length := by simp
  have d0 : decide (((k.length + 1 : Nat) : Int) = 0) = false := decide_eq_false (by omega)
  have hlk : k.length ≤ 100000 := by simp at hkl; omega
  have gA := A74 A4i A71 E3e (fun a b _ _ => C5f a b) x k hki hlk
  have gL := A74 A55 A31 E1k (fun a b ha hb => C9d ha hb) x k hki hlk
  have gM := A74 A5h A2x E1u (fun a b ha hb => C9e ha hb) x k hki hlk
  have rA := C4f (fun a b _ _ => C5f a b) (x :: k) hki
  unfold B95
  rw [if_neg (by simp)]
  unfold kL at gA gL gM ⊢
  by_cases w1 : w = 1
  ·have d1 : decide (w = 1) = true := decide_eq_true w1
   rw [if_pos w1]
   have hI := D0r ((k.length + 1 : Nat) : Int) (by omega) (by omega)
   have hD := D0f (B9d A71 (x :: k)).isNone (A5m (((k.length + 1 : Nat) : Int) * 1000000)).isNone ((B9d A71 (x :: k)).getD 0) ((A5m (((k.length + 1 : Nat) : Int) * 1000000)).getD 0) rA.lo rA.hi (B3f _).lo (B3f _).hi
   rw [rA.val, (B3f _).val] at hD
   simp only [go_sem, d0, d1, hzk]
   refine A6 gA ?_
   simp only [go_sem, hzk]
   refine A6 hI ?_
   simp only [go_sem]
   refine A6 hD ?_
   simp only [go_sem]
   refine wE ?_
   simp only [go_sem, T7]
   first | done | rfl
  have d1 : decide (w = 1) = false := decide_eq_false w1
  rw [if_neg w1]
  by_cases w2 : w = 2
  ·have d2 : decide (w = 2) = true := decide_eq_true w2
   rw [if_pos w2]
   simp only [go_sem, d0, d1, d2, hzk]
   refine A6 gA ?_
   simp only [go_sem]
   refine wE ?_
   simp only [go_sem, T7]
  have d2 : decide (w = 2) = false := decide_eq_false w2
  rw [if_neg w2]
  by_cases w3 : w = 3
  ·have d3 : decide (w = 3) = true := decide_eq_true w3
   rw [if_pos w3]
   simp only [go_sem, d0, d1, d2, d3, hzk]
   refine A6 gL ?_
   simp only [go_sem]
   refine wE ?_
   simp only [go_sem, T7]
  have d3 : decide (w = 3) = false := decide_eq_false w3
  rw [if_neg w3]
  by_cases w4 : w = 4
  ·have d4 : decide (w = 4) = true := decide_eq_true w4
   rw [if_pos w4]
   simp only [go_sem, d0, d1, d2, d3, d4, hzk]
   refine A6 gM ?_
   simp only [go_sem]
   refine wE ?_
   simp only [go_sem, T7]
  have d4 : decide (w = 4) = false := decide_eq_false w4
  rw [if_neg w4]
  by_cases w5 : w = 5
  ·have d5 : decide (w = 5) = true := decide_eq_true w5
   rw [if_pos w5]
   have ew : IntKind.i64.wrap (((k.length + 1 : Nat) : Int) - 1) = (k.length : Int) := by rw [A5 (by omega) (by omega)]; omega
   obtain ⟨y, hy⟩ := F0 (show k.length < (x :: k).length by simp)
   have hla : (x :: k).getLast? = some y := by rw [List.getLast?_eq_getElem?]; simpa using hy
   have hgy : ((x :: k).map fun v => [T.v (.bool false), T.v (.int .i64 v)])[k.length]? = some [.v (.bool false), .v (.int .i64 y)] := by rw [List.getElem?_map, hy]; rfl
   simp only [List.map_cons] at hgy
   have ib : (k.length : Int) < ((k.length + 1 : Nat) : Int) := by omega
   rw [hla]
   simp only [go_sem, d0, d1, d2, d3, d4, d5, hzk, ew, hgy, ib]
   refine wE ?_
   simp only [go_sem, T7]
   first | done | rfl
  have d5 : decide (w = 5) = false := decide_eq_false w5
  rw [if_neg w5]
  simp only [go_sem, d0, d1, d2, d3, d4, d5, hzk]
  refine wE ?_
  simp only [go_sem, T7]
  first | done | rfl

theorem C75 (l : List Num) (hl : l.length ≤ 100000) (h : ∀ n ∈ l, inN n) : Meets Tryz.prog E0 B13 [M6 l] [] (M6 (l.filter fun n => okN n.1 n.2)) [] := by
 refine X6 C6t ?_
 simp only [go_sem, B76]
 refine C8 (fun i : Nat => l.length - i) (fun i => i ≤ l.length)
  (fun i => [(0, M6 l), (3, .own 999 2 0 ((l.take i).filter fun n => okN n.1 n.2).length (!((l.take i).filter fun n => okN n.1 n.2).isEmpty)), (4, I i)])
  (fun i => [(999, .row 2 (!((l.take i).filter fun n => okN n.1 n.2).isEmpty) (((l.take i).filter fun n => okN n.1 n.2).map D7))]) 0 (Nat.zero_le _) ?_ ?_
 ·simp only [List.take_zero, List.filter_nil, List.map_nil, List.length_nil, List.isEmpty_nil, Bool.not_true]
  exact (sR [(999, 888)] [])
 intro i hi
 have hlen : (l.map D7).length = l.length := by simp
 have hfl : ((l.take i).filter fun n => okN n.1 n.2).length ≤ i := Nat.le_trans (List.length_filter_le _ _) (by rw [List.length_take]; omega)
 by_cases hil : i < l.length
 ·have d0 : decide (i < l.length) = true := decide_eq_true hil
  obtain ⟨n, hn⟩ := F0 hil
  have hR := A24 n.1 n.2 (h n (List.mem_of_getElem? hn)).1
  have hg : (l.map D7)[i]? = some [.v (.bool n.1), .v (.int .i64 n.2)] := by rw [List.getElem?_map, hn]; rfl
  have ei : IntKind.i64.wrap ((i : Int) + 1) = ((i + 1 : Nat) : Int) := by rw [A5 (by omega) (by omega)]; omega
  have hs : (l.take (i + 1)).filter (fun n => okN n.1 n.2) = (l.take i).filter (fun n => okN n.1 n.2) ++ if okN n.1 n.2 then [n] else [] := by
   rw [List.take_add_one, hn, List.filter_append]
   by_cases hk : okN n.1 n.2 = true
   ·rw [if_pos hk]; simp [hk]
   ·rw [if_neg hk]; simp [hk]
  generalize hF : (l.take i).filter (fun n => okN n.1 n.2) = F at *
  have skip : okN n.1 n.2 = false → (l.take (i + 1)).filter (fun n => okN n.1 n.2) = F := fun e => by rw [hs, e]; simp
  cases h1 : n.1
  ·rw [h1, if_neg (by decide)] at hR
   cases h2 : decide (-9223372036854775808 < n.2)
   ·rw [h2] at hR
    have e := skip (by unfold okN; rw [h1, h2]; rfl)
    simp only [go_sem, hlen, d0, hg, h1]
    refine A6 hR ?_
    simp only [go_sem, ei]
    refine C3 (i + 1) (by first | omega | (simp only; omega)) hil ?_
    simp only [e]
    exact (sR [] [])
   ·rw [h2] at hR
    have e : (l.take (i + 1)).filter (fun n => okN n.1 n.2) = F ++ [n] := by rw [hs, if_pos (by unfold okN; rw [h1, h2]; rfl)]
    have b4 : (F.length + 1) * 16 ≤ 2 ^ 47 := by omega
    have b5 : F.length + 1 < 2 ^ 47 := by omega
    have hFl : (F.map D7).length = F.length := by simp
    have em : F.map D7 ++ [[.v (.bool false), .v (.int .i64 n.2)]] = (F ++ [n]).map D7 := by simp [D7, h1]
    simp only [go_sem, hlen, d0, hg, h1]
    refine A6 hR ?_
    simp only [go_sem, hlen, d0, hg, h1, b4, b5, hFl, em, ei]
    refine C3 (i + 1) (by first | omega | (simp only; omega)) hil ?_
    simp only [e, List.length_append, List.length_cons, List.length_nil, Nat.zero_add, show (F ++ [n]).isEmpty = false from by simp, Bool.not_false]
    exact (sR [(999, 126)] [])
  ·rw [h1, if_pos rfl] at hR
   have e := skip (by unfold okN; rw [h1]; rfl)
   cases h2 : decide (n.2 = 0)
   ·rw [h2] at hR
    simp only [go_sem, hlen, d0, hg, h1]
    refine A6 hR ?_
    simp only [go_sem, ei]
    refine C3 (i + 1) (by first | omega | (simp only; omega)) hil ?_
    simp only [e]
    exact (sR [] [])
   ·rw [h2] at hR
    simp only [go_sem, hlen, d0, hg, h1]
    refine A6 hR ?_
    simp only [go_sem, hlen, d0, hg, h1, ei]
    refine C3 (i + 1) (by first | omega | (simp only; omega)) hil ?_
    simp only [e]
    exact (sR [] [])
 ·obtain rfl : i = l.length := by omega
  have d0 : decide (l.length < l.length) = false := decide_eq_false (by omega)
  simp only [List.take_length] at *
  generalize l.filter (fun n => okN n.1 n.2) = F at *
  simp only [go_sem, hlen, d0]
  cases F with
  | nil =>
   refine wS [] ?_
   simp only [go_sem, B12, exists_eq_left', Option.some.injEq]
   simp [G1, G2, B1, AV.asOwn, B3, A9, AV.isNil, J8, B6, B4, B8]
  | cons a F =>
   refine wS [999] ?_
   simp only [go_sem, B12, exists_eq_left', Option.some.injEq]
   simp [G1, G2, B1, AV.asOwn, B3, A9, AV.isNil, J8, B6, B4, B8, List.take_of_length_le]

theorem E37 (a : Option Int) (y : Int) (ha : Rt a) (h1 : -9223372036854775808 < y) (h2 : y < 9223372036854775808) : Meets Tryz.prog E0 A9t [NO a, NV false y] [] (NO (A71 a (some y))) [] := by
 have := D19 a.isNone false (a.getD 0) y ha.lo ha.hi (by omega) h2
 rw [ha.val, B4t h1] at this
 exact this
theorem E1s (a : Option Int) (y : Int) (ha : Rt a) (h1 : -9223372036854775808 < y) (h2 : y < 9223372036854775808) : Meets Tryz.prog E0 A83 [NO a, NV false y] [] (NO (A31 a (some y))) [] := by
 have := C8x a.isNone false (a.getD 0) y ha.lo (by omega)
 rw [ha.val, B4t h1] at this
 exact this
theorem E2t (a : Option Int) (y : Int) (ha : Rt a) (h1 : -9223372036854775808 < y) (h2 : y < 9223372036854775808) : Meets Tryz.prog E0 A82 [NO a, NV false y] [] (NO (A2x a (some y))) [] := by
 have := C8i a.isNone false (a.getD 0) y ha.lo (by omega)
 rw [ha.val, B4t h1] at this
 exact this

set_option maxHeartbeats 1000000 in
theorem C4d (w : Int) (l : List Num) (hl : l.length ≤ 100000) (h : ∀ n ∈ l, inN n) : Meets Tryz.prog E0 A8y [I w, M6 l] [] (NO (T6 w l)) [] := by
 refine X6 C4r ?_
 have hK := C75 l hl h
 have hki := D7u h
 have hkl : (kvM l).length ≤ l.length := by unfold kvM; rw [List.length_map]; exact List.length_filter_le _ _
 rw [E35] at hK
 unfold T6
 generalize kvM l = k at *
 simp only [go_sem, B5v]
 refine A6 hK ?_
 cases k with
 | nil =>
  have d0 : decide (((0 : Nat) : Int) = 0) = true := rfl
  unfold kL B95
  rw [if_pos rfl]
  simp only [go_sem, d0]
  refine A6 H5 ?_
  simp only [go_sem]
  refine wE ?_
  simp only [go_sem, T1]
  first | done | rfl
 | cons x k =>
  have hzk : (k.map fun v => [T.v (.bool false), T.v (.int .i64 v)]).length = k.length := by simp
  have d0 : decide (((k.length + 1 : Nat) : Int) = 0) = false := decide_eq_false (by omega)
  have hlk : k.length ≤ 100000 := by simp at hkl; omega
  have rA := C4f (fun a b _ _ => C5f a b) (x :: k) hki
  by_cases w0 : w < 1
  ·have d1 : decide (w < 1) = true := decide_eq_true w0
   unfold kL B95
   rw [if_neg (by simp), if_neg (by omega), if_neg (by omega), if_neg (by omega), if_neg (by omega), if_neg (by omega)]
   simp only [go_sem, d0, d1, hzk]
   refine A6 H5 ?_
   simp only [go_sem]
   refine wE ?_
   simp only [go_sem, T1]
   first | done | rfl
  have d1 : decide (w < 1) = false := decide_eq_false w0
  by_cases w6 : 5 < w
  ·have d2 : decide (5 < w) = true := decide_eq_true w6
   unfold kL B95
   rw [if_neg (by simp), if_neg (by omega), if_neg (by omega), if_neg (by omega), if_neg (by omega), if_neg (by omega)]
   simp only [go_sem, d0, d1, d2, hzk]
   refine A6 H5 ?_
   simp only [go_sem]
   refine wE ?_
   simp only [go_sem, T1]
   first | done | rfl
  have d2 : decide (5 < w) = false := decide_eq_false w6
  have hx := hki x (by simp)
  have hO := D2q 0 (by omega) (by omega)
  rw [B4t (by omega)] at hO
  have i0 : (0 : Int) < ((k.length + 1 : Nat) : Int) := by omega
  unfold kL
  simp only [go_sem, d0, d1, d2, hzk]
  refine A6 hO ?_
  simp only [go_sem, hzk, i0]
  ((try (with_reducible refine rF ?_)); (try simp only [go_sem, hzk, i0]))
  have hfl := D5p x k
  have hfm := D5h x k
  have hfa := D88 hx k
  have hrk := B8z hx
  generalize hL : x :: k = L at *
  have hLl : L.length = k.length + 1 := by rw [← hL]; rfl
  have eL : ([T.v (.bool false), T.v (.int .i64 x)] :: k.map fun v => [T.v (.bool false), T.v (.int .i64 v)]) = L.map fun v => [T.v (.bool false), T.v (.int .i64 v)] := by rw [← hL]; rfl
  have hzL : (L.map fun v => [T.v (.bool false), T.v (.int .i64 v)]).length = L.length := by simp
  rw [eL]
  rw [show ((k.length + 1 : Nat) : Int) = (L.length : Int) by rw [hLl]] at d0 i0
  have hLb : L.length ≤ 100001 := by omega
  refine C8 (fun j : Nat => L.length - j) (fun j => j ≤ L.length)
   (fun j => [(0, I w), (4, .ptr 100 0), (5, .t (.sl 2 (L.map fun v => [.v (.bool false), .v (.int .i64 v)]))), (6, .ptr 124 0), (7, .ptr 125 0), (8, .ptr 126 0), (9, I j)])
   (fun j => [(124, .box [Bo (V3 A71 (some 0) (L.take j)).isNone, I ((V3 A71 (some 0) (L.take j)).getD 0)]), (125, .box [Bo (V3 A31 (some x) (L.take j)).isNone, I ((V3 A31 (some x) (L.take j)).getD 0)]), (126, .box [Bo (V3 A2x (some x) (L.take j)).isNone, I ((V3 A2x (some x) (L.take j)).getD 0)]), (100, .box [Bo false, I 0])]) 0 (Nat.zero_le _) ?_ ?_
  ·simp only [List.take_zero, show ∀ (two : Option Int → Option Int → Option Int) a, V3 two a [] = a from fun _ _ => rfl, Option.isNone_some, Option.getD_some]
   exact (sR [] [])
  intro j hj
  have hin : ∀ y ∈ L.take j, -9223372036854775808 < y ∧ y < 9223372036854775808 := fun y hy => hki y (List.mem_of_mem_take hy)
  have t1 : Rt (V3 A71 (some 0) (L.take j)) := B66 (fun a b _ _ => C5f a b) _ _ (B8z (by omega)) hin
  have t2 : Rt (V3 A31 (some x) (L.take j)) := B66 (fun a b ha hb => C9d ha hb) _ _ hrk hin
  have t3 : Rt (V3 A2x (some x) (L.take j)) := B66 (fun a b ha hb => C9e ha hb) _ _ hrk hin
  by_cases hjl : j < L.length
  ·have d3 : decide (j < L.length) = true := decide_eq_true hjl
   obtain ⟨y, hy⟩ := F0 hjl
   have hyk := hki y (List.mem_of_getElem? hy)
   have hgy : (L.map fun v => [T.v (.bool false), T.v (.int .i64 v)])[j]? = some [.v (.bool false), .v (.int .i64 y)] := by rw [List.getElem?_map, hy]; rfl
   have ej : IntKind.i64.wrap ((j : Int) + 1) = ((j + 1 : Nat) : Int) := by rw [A5 (by omega) (by omega)]; omega
   have hs : ∀ two a, V3 two a (L.take (j + 1)) = two (V3 two a (L.take j)) (some y) := by
    intro two a; rw [List.take_add_one, hy]; exact C79 two a _ y
   have q1 := E37 _ y t1 hyk.1 hyk.2
   have q2 := E1s _ y t2 hyk.1 hyk.2
   have q3 := E2t _ y t3 hyk.1 hyk.2
   have n1 := hs A71 (some 0)
   have n2 := hs A31 (some x)
   have n3 := hs A2x (some x)
   generalize V3 A71 (some 0) (L.take j) = o1 at *
   generalize V3 A31 (some x) (L.take j) = o2 at *
   generalize V3 A2x (some x) (L.take j) = o3 at *
   simp only [go_sem, hzL, d3, hgy]
   refine A6 q1 ?_
   simp only [go_sem, hzL, hgy, d3]
   ((try (with_reducible refine rF ?_)); (try simp only [go_sem, hzL, hgy, d3]))
   refine A6 q2 ?_
   simp only [go_sem, hzL, hgy, d3]
   ((try (with_reducible refine rF ?_)); (try simp only [go_sem, hzL, hgy, d3]))
   refine A6 q3 ?_
   simp only [go_sem, hzL, hgy, d3]
   ((try (with_reducible refine rF ?_)); (try simp only [go_sem, hzL, hgy, d3, ej]))
   refine C3 (j + 1) (by first | omega | (simp only; omega)) hjl ?_
   simp only [n1, n2, n3]
   exact (sR [] [])
  ·obtain rfl : j = L.length := by omega
   have d3 : decide (L.length < L.length) = false := decide_eq_false (by omega)
   rw [List.take_length] at t1 ⊢
   rw [hfa] at t1
   rw [hfa, hfl, hfm]
   unfold B95
   rw [if_neg (show ¬ L = [] by rw [← hL]; simp)]
   by_cases w1 : w = 1
   ·have d4 : decide (w = 1) = true := decide_eq_true w1
    rw [if_pos w1]
    have hI := D1g (L.length : Int) (by omega) (by omega)
    have hD := D0s (B9d A71 L).isNone (A5m ((L.length : Int) * 1000000)).isNone ((B9d A71 L).getD 0) ((A5m ((L.length : Int) * 1000000)).getD 0) t1.lo t1.hi (B3f _).lo (B3f _).hi
    rw [t1.val, (B3f _).val] at hD
    simp only [go_sem, hzL, d3, d4]
    refine A6 hI ?_
    simp only [go_sem]
    refine A6 hD ?_
    simp only [go_sem]
    ((try (with_reducible refine rF ?_)); (try simp only [go_sem]))
    refine wE ?_
    simp only [go_sem, T1]
    first | done | rfl
   have d4 : decide (w = 1) = false := decide_eq_false w1
   rw [if_neg w1]
   by_cases w2 : w = 2
   ·have d5 : decide (w = 2) = true := decide_eq_true w2
    rw [if_pos w2]
    simp only [go_sem, hzL, d3, d4, d5]
    refine wE ?_
    simp only [go_sem, T1]
   have d5 : decide (w = 2) = false := decide_eq_false w2
   rw [if_neg w2]
   by_cases w3 : w = 3
   ·have d6 : decide (w = 3) = true := decide_eq_true w3
    rw [if_pos w3]
    simp only [go_sem, hzL, d3, d4, d5, d6]
    refine wE ?_
    simp only [go_sem, T1]
   have d6 : decide (w = 3) = false := decide_eq_false w3
   rw [if_neg w3]
   by_cases w4 : w = 4
   ·have d7 : decide (w = 4) = true := decide_eq_true w4
    rw [if_pos w4]
    simp only [go_sem, hzL, d3, d4, d5, d6, d7]
    refine wE ?_
    simp only [go_sem, T1]
   have d7 : decide (w = 4) = false := decide_eq_false w4
   rw [if_neg w4, if_pos (show w = 5 by omega)]
   have ew : IntKind.i64.wrap ((L.length : Int) - 1) = (k.length : Int) := by rw [A5 (by omega) (by omega)]; omega
   obtain ⟨y, hy⟩ := F0 (show k.length < L.length by omega)
   have hla : L.getLast? = some y := by rw [List.getLast?_eq_getElem?, hLl]; simpa using hy
   have hgy : (L.map fun v => [T.v (.bool false), T.v (.int .i64 v)])[k.length]? = some [.v (.bool false), .v (.int .i64 y)] := by rw [List.getElem?_map, hy]; rfl
   have ib : (k.length : Int) < (L.length : Int) := by omega
   rw [hla]
   simp only [go_sem, hzL, d3, d4, d5, d6, d7, ew, hgy, ib]
   refine wE ?_
   simp only [go_sem, T1]
   first | done | rfl

def O2 (l : List UInt8) : (Int × Int) × (Bool × Bool) :=
 if (l == [115, 111, 114, 116, 66, 121, 78, 97, 109, 101]) = true then ((0, 0), (false, true)) else
 if (l == [115, 111, 114, 116, 66, 121, 84, 111, 116, 97, 108]) = true then ((0, 0), (false, true)) else
 if (l == [115, 111, 114, 116, 66, 121, 77, 97, 120, 105, 109, 97]) = true then ((0, 0), (false, true)) else
 if (l == [115, 111, 114, 116, 66, 121, 77, 105, 110, 105, 109, 97]) = true then ((0, 0), (false, true)) else
 if (l == [103, 114, 111, 117, 112]) = true then ((0, 0), (false, true)) else
 if (l == [108, 105, 109, 105, 116]) = true then ((1, 1), (false, true)) else
 if (l == [104, 105, 103, 104, 101, 115, 116, 65, 118, 101, 114, 97, 103, 101]) = true then ((1, 1), (false, true)) else
 if (l == [104, 105, 103, 104, 101, 115, 116, 77, 97, 120]) = true then ((1, 1), (false, true)) else
 if (l == [104, 105, 103, 104, 101, 115, 116, 67, 117, 114, 114, 101, 110, 116]) = true then ((1, 1), (false, true)) else
 if (l == [108, 111, 119, 101, 115, 116, 65, 118, 101, 114, 97, 103, 101]) = true then ((1, 1), (false, true)) else
 if (l == [108, 111, 119, 101, 115, 116, 67, 117, 114, 114, 101, 110, 116]) = true then ((1, 1), (false, true)) else
 if (l == [97, 118, 101, 114, 97, 103, 101, 65, 98, 111, 118, 101]) = true then ((1, 1), (false, true)) else
 if (l == [109, 97, 120, 105, 109, 117, 109, 65, 98, 111, 118, 101]) = true then ((1, 1), (false, true)) else
 if (l == [109, 105, 110, 105, 109, 117, 109, 65, 98, 111, 118, 101]) = true then ((1, 1), (false, true)) else
 if (l == [99, 117, 114, 114, 101, 110, 116, 65, 98, 111, 118, 101]) = true then ((1, 1), (false, true)) else
 if (l == [97, 118, 101, 114, 97, 103, 101, 66, 101, 108, 111, 119]) = true then ((1, 1), (false, true)) else
 if (l == [109, 97, 120, 105, 109, 117, 109, 66, 101, 108, 111, 119]) = true then ((1, 1), (false, true)) else
 if (l == [109, 105, 110, 105, 109, 117, 109, 66, 101, 108, 111, 119]) = true then ((1, 1), (false, true)) else
 if (l == [99, 117, 114, 114, 101, 110, 116, 66, 101, 108, 111, 119]) = true then ((1, 1), (false, true)) else
 if (l == [103, 114, 101, 112]) = true then ((0, 0), (true, true)) else
 if (l == [101, 120, 99, 108, 117, 100, 101]) = true then ((0, 0), (true, true)) else
 if (l == [97, 108, 105, 97, 115]) = true then ((0, 0), (true, true)) else
 if (l == [97, 108, 105, 97, 115, 66, 121, 78, 111, 100, 101]) = true then ((1, 16), (false, true)) else
 ((0, 0), (false, false))

def A2k (l : List UInt8) : Int :=
 if (l == [104, 105, 103, 104, 101, 115, 116, 65, 118, 101, 114, 97, 103, 101]) = true then 1 else
 if (l == [108, 111, 119, 101, 115, 116, 65, 118, 101, 114, 97, 103, 101]) = true then 1 else
 if (l == [97, 118, 101, 114, 97, 103, 101, 65, 98, 111, 118, 101]) = true then 1 else
 if (l == [97, 118, 101, 114, 97, 103, 101, 66, 101, 108, 111, 119]) = true then 1 else
 if (l == [104, 105, 103, 104, 101, 115, 116, 77, 97, 120]) = true then 4 else
 if (l == [109, 97, 120, 105, 109, 117, 109, 65, 98, 111, 118, 101]) = true then 4 else
 if (l == [109, 97, 120, 105, 109, 117, 109, 66, 101, 108, 111, 119]) = true then 4 else
 if (l == [115, 111, 114, 116, 66, 121, 77, 97, 120, 105, 109, 97]) = true then 4 else
 if (l == [109, 105, 110, 105, 109, 117, 109, 65, 98, 111, 118, 101]) = true then 3 else
 if (l == [109, 105, 110, 105, 109, 117, 109, 66, 101, 108, 111, 119]) = true then 3 else
 if (l == [115, 111, 114, 116, 66, 121, 77, 105, 110, 105, 109, 97]) = true then 3 else
 if (l == [104, 105, 103, 104, 101, 115, 116, 67, 117, 114, 114, 101, 110, 116]) = true then 5 else
 if (l == [108, 111, 119, 101, 115, 116, 67, 117, 114, 114, 101, 110, 116]) = true then 5 else
 if (l == [99, 117, 114, 114, 101, 110, 116, 65, 98, 111, 118, 101]) = true then 5 else
 if (l == [99, 117, 114, 114, 101, 110, 116, 66, 101, 108, 111, 119]) = true then 5 else
 if (l == [115, 111, 114, 116, 66, 121, 84, 111, 116, 97, 108]) = true then 2 else
 0

def A2o (l : List UInt8) : Int :=
 if (l == [104, 105, 103, 104, 101, 115, 116, 65, 118, 101, 114, 97, 103, 101]) = true then 1 else
 if (l == [104, 105, 103, 104, 101, 115, 116, 77, 97, 120]) = true then 1 else
 if (l == [104, 105, 103, 104, 101, 115, 116, 67, 117, 114, 114, 101, 110, 116]) = true then 1 else
 if (l == [115, 111, 114, 116, 66, 121, 84, 111, 116, 97, 108]) = true then 1 else
 if (l == [115, 111, 114, 116, 66, 121, 77, 97, 120, 105, 109, 97]) = true then 1 else
 if (l == [108, 111, 119, 101, 115, 116, 65, 118, 101, 114, 97, 103, 101]) = true then 2 else
 if (l == [108, 111, 119, 101, 115, 116, 67, 117, 114, 114, 101, 110, 116]) = true then 2 else
 if (l == [115, 111, 114, 116, 66, 121, 77, 105, 110, 105, 109, 97]) = true then 2 else
 if (l == [97, 118, 101, 114, 97, 103, 101, 65, 98, 111, 118, 101]) = true then 3 else
 if (l == [109, 97, 120, 105, 109, 117, 109, 65, 98, 111, 118, 101]) = true then 3 else
 if (l == [109, 105, 110, 105, 109, 117, 109, 65, 98, 111, 118, 101]) = true then 3 else
 if (l == [99, 117, 114, 114, 101, 110, 116, 65, 98, 111, 118, 101]) = true then 3 else
 if (l == [97, 118, 101, 114, 97, 103, 101, 66, 101, 108, 111, 119]) = true then 4 else
 if (l == [109, 97, 120, 105, 109, 117, 109, 66, 101, 108, 111, 119]) = true then 4 else
 if (l == [109, 105, 110, 105, 109, 117, 109, 66, 101, 108, 111, 119]) = true then 4 else
 if (l == [99, 117, 114, 114, 101, 110, 116, 66, 101, 108, 111, 119]) = true then 4 else
 0

set_option maxHeartbeats 4000000 in
theorem B75 (l : List UInt8) : Meets Tryz.prog E0 A6b [Q5 (D6 l)] [] (.tp [I (O2 l).1.1, I (O2 l).1.2, Bo (O2 l).2.1, Bo (O2 l).2.2]) [] := by
 refine X6 C6r ?_
 have q : ∀ w, S2 .eql (D6 l) (bs w) = some (.bool (l == w)) := fun w => eqT l w
 repeat' (first | (simp only [go_sem, B1i, q, *]) | (simp (disch := omega) only [B1i, q, A5, C4, C1, J1, J6]) | ((with_reducible first | refine Q4 (fun hsp => ?_) fun hsp => ?_ | refine Q3 (fun hsp => ?_) fun hsp => ?_) <;> (try simp only [spB, spD, spC] at hsp)) | (with_reducible refine rF ?_))
 all_goals refine wE ?_
 all_goals simp only [go_sem, B7q]
 all_goals simp [O2, *]

set_option maxHeartbeats 4000000 in
theorem B8o (l : List UInt8) : Meets Tryz.prog E0 A0o [Q5 (D6 l)] [] (I (A2o l)) [] := by
 refine X6 C8h ?_
 have q : ∀ w, S2 .eql (D6 l) (bs w) = some (.bool (l == w)) := fun w => eqT l w
 repeat' (first | (simp only [go_sem, B36, q, *]) | (simp (disch := omega) only [B36, q, A5, C4, C1, J1, J6]) | ((with_reducible first | refine Q4 (fun hsp => ?_) fun hsp => ?_ | refine Q3 (fun hsp => ?_) fun hsp => ?_) <;> (try simp only [spB, spD, spC] at hsp)) | (with_reducible refine rF ?_))
 all_goals refine wE ?_
 all_goals simp only [go_sem, B9o]
 all_goals simp [A2o, *]

set_option maxHeartbeats 4000000 in
theorem A72 (l : List UInt8) (s : F4) (hl : s.2.2.2.length ≤ 100000) (h : inS s) : Meets Tryz.prog E0 A1x [Q5 (D6 l), .ag [Q5 (D6 s.1), I s.2.1, I s.2.2.1, M6 s.2.2.2]] [] (NO (T6 (A2k l) s.2.2.2)) [] := by
 refine X6 C35 ?_
 have q : ∀ w, S2 .eql (D6 l) (bs w) = some (.bool (l == w)) := fun w => eqT l w
 have hR := fun w => C4d w s.2.2.2 hl h
 repeat' (first | (with_reducible first | refine A6 (hR _) ?_) | (simp only [go_sem, A7l, q, *]) | (simp (disch := omega) only [A7l, q, A5, C4, C1, J1, J6]) | ((with_reducible first | refine Q4 (fun hsp => ?_) fun hsp => ?_ | refine Q3 (fun hsp => ?_) fun hsp => ?_) <;> (try simp only [spB, spD, spC] at hsp)) | (with_reducible refine rF ?_))
 all_goals refine wE ?_
 all_goals simp only [go_sem, B49]
 all_goals simp [A2k, *]

def A01 : List UInt8 := [97, 108, 105, 97, 115]
def A4k : List UInt8 := [97, 108, 105, 97, 115, 66, 121, 78, 111, 100, 101]
def D01 : List UInt8 := [103, 114, 111, 117, 112]
def B7s : List UInt8 := [115, 111, 114, 116, 66, 121]
def A8q : List UInt8 := [103, 114, 101, 112]
def B42 : List UInt8 := [101, 120, 99, 108, 117, 100, 101]
def X7 : List UInt8 := [115, 111, 114, 116, 66, 121, 78, 97, 109, 101]

theorem B6g : ∀ (t : List (List UInt8 × Int × Int)) (l : List UInt8), l ∉ t.map (·.1) → A52 t l = none := by
 intro t l
 induction t using A3y with
 | h0 => intro _; rfl
 | h1 t x ih =>
  intro h
  rw [List.map_append, List.mem_append] at h
  rw [C2h, if_neg (fun e => h (Or.inr (by simp [e]))), ih (fun m => h (Or.inl m))]

/-- One of the words, or none of them. -/
theorem A9c (P : List UInt8 → Prop) (l : List UInt8) (h1 : ∀ p ∈ A46, P p.1) (h2 : l ∉ A46.map (·.1) → P l) : P l := by
 by_cases h : l ∈ A46.map (·.1)
 ·obtain ⟨p, hp, rfl⟩ := List.mem_map.1 h
  exact h1 p hp
 ·exact h2 h

theorem C4g {l w : List UInt8} (h : l ∉ A46.map (·.1)) (hw : (A46.map (·.1)).contains w = true) : ¬ (l == w) = true := by
 intro e
 have : l = w := by simpa using e
 subst this
 exact h (by simpa using hw)

def C0u (l : List UInt8) : (Int × Int) × (Bool × Bool) :=
 if (E9 l).2 = false then ((0, 0), (false, false)) else if (l == A4k) = true then ((1, 16), (false, true)) else if ((E9 l).1.1 == 6 || l == A01) = true then ((0, 0), (true, true))
 else if (l == D01 || l.take 6 == B7s) = true then ((0, 0), (false, true)) else ((1, 1), (false, true))

theorem D0n (l : List UInt8) : C0u l = O2 l := by
 refine A9c (fun l => C0u l = O2 l) l (by decide +kernel) fun h => ?_
 have e : C0u l = ((0, 0), (false, false)) := by
  unfold C0u E9
  rw [B6g _ _ h]
  rfl
 rw [e]
 unfold O2
 iterate 23 rw [if_neg (C4g h (by decide +kernel))]

theorem E1b (l : List UInt8) : (E9 l).1.2 = A2k l := by
 refine A9c (fun l => (E9 l).1.2 = A2k l) l (by decide +kernel) fun h => ?_
 have e : (E9 l).1.2 = 0 := by unfold E9; rw [B6g _ _ h]; rfl
 rw [e]
 unfold A2k
 iterate 16 rw [if_neg (C4g h (by decide +kernel))]

/-- The document's number of a kind. -/
def B80 (k : Int) : Int := if k = 2 then 1 else if k = 3 then 2 else if k = 4 then 3 else if k = 5 then 4 else 0

theorem C9n (l : List UInt8) : A2o l = B80 (E9 l).1.1 := by
 refine A9c (fun l => A2o l = B80 (E9 l).1.1) l (by decide +kernel) fun h => ?_
 have e : (E9 l).1.1 = 0 := by unfold E9; rw [B6g _ _ h]; rfl
 rw [e]
 unfold A2o
 iterate 16 rw [if_neg (C4g h (by decide +kernel))]
 rfl

theorem C94 (l : List UInt8) (hl : l.length ≤ 1000000000) : Meets Tryz.prog E0 A3p [Q5 (D6 l), Q5 (bs [115, 111, 114, 116, 66, 121])] [] (Bo (l.take 6 == B7s)) [] := by
 have h : Meets Tryz.prog E0 A14 [Q5 (D6 l), Q5 (D6 B7s)] [] (Bo (l.take 6 == B7s)) [] := by
  refine X6 B1v ?_
  have e6 : B7s.length = 6 := rfl
  have c6 : ((6 : Nat) : Int) = 6 := rfl
  by_cases h6 : 6 ≤ l.length
  ·have d : decide ((6 : Int) ≤ (l.length : Int)) = true := decide_eq_true (by omega)
   have c1 : ((6 : Int) ≤ (l.length : Int)) = True := eq_true (by omega)
   have e : (D6 l).extract 0 6 = D6 (l.take 6) := by rw [E2d]; rfl
   have q := eqT (l.take 6) B7s
   simp only [go_sem, A12, C9, e6, c6, d, c1, e, q]
   refine wE ?_
   simp only [go_sem, A1g]
  ·have d : decide ((6 : Int) ≤ (l.length : Int)) = false := decide_eq_false (by omega)
   have hz : (l.take 6 == B7s) = false := by
    have : (l.take 6).length ≠ B7s.length := by rw [List.length_take, e6]; omega
    have : l.take 6 ≠ B7s := fun e => this (by rw [e])
    simpa using this
   rw [hz]
   simp only [go_sem, A12, C9, e6, c6, d]
   refine wE ?_
   simp only [go_sem, A1g]
 refine X6 B6w ?_
 simp only [go_sem, A7p]
 refine A6 h ?_
 simp only [go_sem]
 refine wE ?_
 simp only [go_sem, A7m]

theorem B5k (l : List UInt8) (hl : l.length ≤ 1000000000) : Meets Tryz.prog E0 A4z [Q5 (D6 l)] [] (.tp [I (O2 l).1.1, I (O2 l).1.2, Bo (O2 l).2.1, Bo (O2 l).2.2]) [] := by
 refine X6 C42 ?_
 rw [← D0n]
 unfold C0u
 have hR := A58 l hl
 have hP := C94 l hl
 have q1 : S2 .eql (D6 l) (bs [97, 108, 105, 97, 115, 66, 121, 78, 111, 100, 101]) = some (.bool (l == A4k)) := eqT l A4k
 have q2 : S2 .eql (D6 l) (bs [97, 108, 105, 97, 115]) = some (.bool (l == A01)) := eqT l A01
 have q3 : S2 .eql (D6 l) (bs [103, 114, 111, 117, 112]) = some (.bool (l == D01)) := eqT l D01
 generalize E9 l = r at *
 obtain ⟨⟨k, w⟩, ok⟩ := r
 simp only [go_sem, B5p]
 refine A6 hR ?_
 simp only
 cases ok
 ·rw [if_pos rfl]
  simp only [go_sem]
  refine wE ?_
  simp only [go_sem, X4]
  first | done | rfl
 ·rw [if_neg (by decide)]
  cases h1 : (l == A4k)
  ·rw [if_neg (by decide)]
   have d6 : decide (k = 6) = (k == 6) := by by_cases h : k = 6 <;> simp [h]
   cases h2 : (k == 6)
   ·rw [h2] at d6
    cases h3 : (l == A01)
    ·rw [if_neg (by decide)]
     cases h4 : (l == D01)
     ·cases h5 : (l.take 6 == B7s)
      ·rw [h5] at hP
       rw [if_neg (by decide)]
       simp only [go_sem, q1, q2, q3, h1, h3, h4, d6]
       refine A6 hP ?_
       simp only [go_sem]
       refine wE ?_
       simp only [go_sem, X4]
       first | done | rfl
      ·rw [h5] at hP
       rw [if_pos (by rfl)]
       simp only [go_sem, q1, q2, q3, h1, h3, h4, d6]
       refine A6 hP ?_
       simp only [go_sem]
       refine wE ?_
       simp only [go_sem, X4]
       first | done | rfl
     ·rw [if_pos (by rfl)]
      simp only [go_sem, q1, q2, q3, h1, h3, h4, d6]
      refine wE ?_
      simp only [go_sem, X4]
      first | done | rfl
    ·rw [if_pos (by rfl)]
     simp only [go_sem, q1, q2, q3, h1, h3, d6]
     refine wE ?_
     simp only [go_sem, X4]
     first | done | rfl
   ·rw [h2] at d6
    rw [if_pos (by rfl)]
    simp only [go_sem, q1, q2, q3, h1, d6]
    refine wE ?_
    simp only [go_sem, X4]
    first | done | rfl
  ·rw [if_pos rfl]
   simp only [go_sem, q1, h1]
   refine wE ?_
   simp only [go_sem, X4]
   first | done | rfl

theorem A5s (l : List UInt8) (hl : l.length ≤ 1000000000) (s : F4) (hs : s.2.2.2.length ≤ 100000) (h : inS s) : Meets Tryz.prog E0 A1b [Q5 (D6 l), .ag [Q5 (D6 s.1), I s.2.1, I s.2.2.1, M6 s.2.2.2]] [] (NO (T6 (A2k l) s.2.2.2)) [] := by
 refine X6 C1y ?_
 rw [← E1b]
 have hR := A58 l hl
 have hK := C3q (E9 l).1.2 s.2.2.2 hs h
 have hz : (E9 l).2 = false → (E9 l).1.2 = 0 := by
  unfold E9
  intro e
  have : A52 A46 l = none := by
   cases hq : A52 A46 l with
   | none => rfl
   | some x => rw [hq] at e; cases e
  rw [this]; rfl
 generalize E9 l = r at *
 obtain ⟨⟨k, w⟩, ok⟩ := r
 simp only [go_sem, B1z]
 refine A6 hR ?_
 simp only at hK hz ⊢
 cases ok
 ·have hw := hz rfl
  subst hw
  have e0 : T6 0 s.2.2.2 = none := by
   unfold T6 B95
   split
   ·rfl
   ·rw [if_neg (by decide), if_neg (by decide), if_neg (by decide), if_neg (by decide), if_neg (by decide)]
  rw [e0]
  simp only [go_sem]
  refine wE ?_
  simp only [go_sem, A5z]
  first | done | rfl
 ·simp only [go_sem]
  refine A6 hK ?_
  simp only [go_sem]
  refine wE ?_
  simp only [go_sem, A5z]

/-- The order of two measures. -/
def B9l (a b : Option Int) (down : Bool) : Int := match a, b with
 | none, none => 0
 | none, some _ => 1
 | some _, none => -1
 | some x, some y => if down then (if y < x then -1 else if x < y then 1 else 0) else (if x < y then -1 else if y < x then 1 else 0)

theorem C4n (a b : Option Int) (down : Bool) (ha : Rt a) (hb : Rt b) : Meets Tryz.prog E0 A9f [NO a, NO b, Bo down] [] (I (B9l a b down)) [] := by
 refine X6 C4l ?_
 have c1 := A9q b.isNone a.isNone (b.getD 0) (a.getD 0)
 have c2 := A9q a.isNone b.isNone (a.getD 0) (b.getD 0)
 rw [ha.val, hb.val] at c1 c2
 cases a with
 | none =>
  cases b with
  | none =>
   simp only [go_sem, A16]
   refine wE ?_
   simp only [go_sem, A1a]
   first | done | rfl
  | some y =>
   simp only [go_sem, A16]
   refine wE ?_
   simp only [go_sem, A1a]
   first | done | rfl
 | some x =>
  cases b with
  | none =>
   simp only [go_sem, A16]
   refine wE ?_
   simp only [go_sem, A1a]
   first | done | rfl
  | some y =>
   cases down
   ·simp only [go_sem, A16]
    refine A6 c2 ?_
    simp only [go_sem]
    refine wE ?_
    simp only [go_sem, A1a]
    first | done | rfl
   ·simp only [go_sem, A16]
    refine A6 c1 ?_
    simp only [go_sem]
    refine wE ?_
    simp only [go_sem, A1a]
    first | done | rfl

theorem B8r (x y : F4 × Option Int) (down : Bool) (hx : Rt x.2) (hy : Rt y.2) : Meets Tryz.prog E0 A2g [.ag [Q5 (D6 x.1.1), I x.1.2.1, I x.1.2.2.1, M6 x.1.2.2.2, Bo x.2.isNone, I (x.2.getD 0)], .ag [Q5 (D6 y.1.1), I y.1.2.1, I y.1.2.2.1, M6 y.1.2.2.2, Bo y.2.isNone, I (y.2.getD 0)], .ptr 1 0] [(1, .box [Bo down])] (I (B9l x.2 y.2 down)) [(1, .box [Bo down])] := by
 refine B93 (by simp) (C2 (by simp [B5, AV.ids, A4]) (by simp [Ob.live, Ob.ids, A4, B5, AV.ids])) (C2 (by simp [B5, AV.ids, A4]) (by simp [Ob.live, Ob.ids, A4, B5, AV.ids])) (by simp [A4]) (by simp [A4]) ?_
 simp only [go_sem, A9u]
 refine A6 (C4n x.2 y.2 down hx hy) ?_
 simp only [go_sem]
 refine wO [] [] ?_
 simp only [go_sem, A9w, exists_eq_left', Option.some.injEq]
 simp [G1, G2, B1, AV.asOwn, B3, A9, AV.isNil, J8, B6, B4, B8, ren]

theorem C5v (a b : Option Int) (down : Bool) : Meets Tryz.prog E0 A8k [NO a, NO b, Bo down] [] (Bo (decide (B9l b a down < 0))) [] := by
 refine X6 C4a ?_
 cases b with
 | none =>
  have e : decide (B9l none a down < 0) = false := by cases a <;> rfl
  rw [e]
  simp only [go_sem, A2v]
  refine wE ?_
  simp only [go_sem, A2z]
 | some y =>
  cases a with
  | none =>
   simp only [go_sem, A2v]
   refine wE ?_
   simp only [go_sem, A2z]
   first | done | rfl
  | some x =>
   cases down
   ·have e : decide (B9l (some y) (some x) false < 0) = decide (y < x) := by
     refine decide_eq_decide.2 ?_
     unfold B9l
     simp only [Bool.false_eq_true, if_false]
     split <;> (try split) <;> omega
    rw [e]
    simp only [go_sem, A2v]
    refine wE ?_
    simp only [go_sem, A2z]
    first | done | rfl
   ·have e : decide (B9l (some y) (some x) true < 0) = decide (x < y) := by
     refine decide_eq_decide.2 ?_
     unfold B9l
     simp only [if_true]
     split <;> (try split) <;> omega
    rw [e]
    simp only [go_sem, A2v]
    refine wE ?_
    simp only [go_sem, A2z]
    first | done | rfl

def B2 (x : F4) : List T := [.v (.string (D6 (x).1)), .v (.int .i64 (x).2.1), .v (.int .i64 (x).2.2.1), .sl 2 ((x).2.2.2.map D7)]

theorem B6s {p u m v q : List F4} {i : Nat} (hn : u.length = v.length) (hi : i < u.length) : ∃ x y, (p ++ (v.take i ++ u.drop i) ++ m ++ (u.take i ++ v.drop i) ++ q)[p.length + i]? = some x ∧ (p ++ (v.take i ++ u.drop i) ++ m ++ (u.take i ++ v.drop i) ++ q)[p.length + u.length + m.length + i]? = some y ∧
  (((p ++ (v.take i ++ u.drop i) ++ m ++ (u.take i ++ v.drop i) ++ q).set (p.length + i) y)[p.length + u.length + m.length + i]? = some y) ∧
  ((p ++ (v.take i ++ u.drop i) ++ m ++ (u.take i ++ v.drop i) ++ q).set (p.length + i) y).set (p.length + u.length + m.length + i) x = p ++ (v.take (i + 1) ++ u.drop (i + 1)) ++ m ++ (u.take (i + 1) ++ v.drop (i + 1)) ++ q := by
 obtain ⟨u1, x, u2, rfl, rfl⟩ : ∃ u1 x u2, u = u1 ++ x :: u2 ∧ u1.length = i := ⟨u.take i, u[i], u.drop (i + 1), by simp, by simp; omega⟩
 obtain ⟨v1, y, v2, rfl, hv⟩ : ∃ v1 y v2, v = v1 ++ y :: v2 ∧ v1.length = u1.length := ⟨v.take u1.length, v[u1.length], v.drop (u1.length + 1), by simp, by simp; omega⟩
 have l2 : v2.length = u2.length := by simp at hn; omega
 refine ⟨x, y, ?_⟩
 have e1 : (v1 ++ y :: v2).take u1.length ++ (u1 ++ x :: u2).drop u1.length = v1 ++ x :: u2 := by rw [← hv, List.take_left, hv, List.drop_left]
 have e2 : (u1 ++ x :: u2).take u1.length ++ (v1 ++ y :: v2).drop u1.length = u1 ++ y :: v2 := by rw [List.take_left, ← hv, List.drop_left]
 have e3 : (v1 ++ y :: v2).take (u1.length + 1) ++ (u1 ++ x :: u2).drop (u1.length + 1) = v1 ++ y :: u2 := by
  rw [show v1 ++ y :: v2 = (v1 ++ [y]) ++ v2 by simp, show u1 ++ x :: u2 = (u1 ++ [x]) ++ u2 by simp, List.take_left' (by simp [hv]), List.drop_left' (by simp)]; simp
 have e4 : (u1 ++ x :: u2).take (u1.length + 1) ++ (v1 ++ y :: v2).drop (u1.length + 1) = u1 ++ x :: v2 := by
  rw [show v1 ++ y :: v2 = (v1 ++ [y]) ++ v2 by simp, show u1 ++ x :: u2 = (u1 ++ [x]) ++ u2 by simp, List.take_left' (by simp), List.drop_left' (by simp [hv])]; simp
 rw [e1, e2, e3, e4]
 have f1 : p ++ (v1 ++ x :: u2) ++ m ++ (u1 ++ y :: v2) ++ q = (p ++ v1) ++ x :: (u2 ++ m ++ u1 ++ y :: (v2 ++ q)) := by simp
 have f2 : p ++ (v1 ++ y :: u2) ++ m ++ (u1 ++ y :: v2) ++ q = (p ++ v1 ++ y :: u2 ++ m ++ u1) ++ y :: (v2 ++ q) := by simp
 have n1 : p.length + u1.length = (p ++ v1).length := by simp [hv]
 have n2 : p.length + (u1 ++ x :: u2).length + m.length + u1.length = (p ++ v1 ++ y :: u2 ++ m ++ u1).length := by simp [hv]; omega
 have s1 : (p ++ (v1 ++ x :: u2) ++ m ++ (u1 ++ y :: v2) ++ q).set (p.length + u1.length) y = p ++ (v1 ++ y :: u2) ++ m ++ (u1 ++ y :: v2) ++ q := by
  rw [f1, n1, List.set_append_right _ _ (Nat.le_refl _), Nat.sub_self, List.set_cons_zero]; simp
 refine ⟨?_, ?_, ?_, ?_⟩
 ·rw [f1, n1, List.getElem?_append_right (Nat.le_refl _), Nat.sub_self]; rfl
 ·have : p ++ (v1 ++ x :: u2) ++ m ++ (u1 ++ y :: v2) ++ q = (p ++ v1 ++ x :: u2 ++ m ++ u1) ++ y :: (v2 ++ q) := by simp
  rw [this, show p.length + (u1 ++ x :: u2).length + m.length + u1.length = (p ++ v1 ++ x :: u2 ++ m ++ u1).length by simp [hv]; omega, List.getElem?_append_right (Nat.le_refl _), Nat.sub_self]; rfl
 ·rw [s1, f2, n2, List.getElem?_append_right (Nat.le_refl _), Nat.sub_self]; rfl
 ·rw [s1, f2, n2, List.set_append_right _ _ (Nat.le_refl _), Nat.sub_self, List.set_cons_zero]; simp

theorem A1o (g L : Nat) (r : Bool)  (p u m v q : List F4) (hn : u.length = v.length) (hL : L = (p ++ u ++ m ++ v ++ q).length) (hb : L ≤ 281474976710656) :
  Meets Tryz.prog E0 I2 [.own 0 4 0 L r, I p.length, I (p.length + u.length + m.length : Nat), I u.length, .fn g [] []] [(0, .row 4 true ((p ++ u ++ m ++ v ++ q).map B2))] (.tp []) [(0, .row 4 true ((p ++ v ++ m ++ u ++ q).map B2))] := by
 refine A3n (by simp) (C2 (by simp [B5, AV.ids, A4]) (by simp [Ob.live, Ob.ids, A4, B5, AV.ids])) (C2 (by simp [B5, AV.ids, A4]) (by simp [Ob.live, Ob.ids, A4, B5, AV.ids])) (by simp [A4]) (by simp [A4]) ?_
 simp only [go_sem, Y3]
 refine C8 (fun i : Nat => u.length - i) (fun i => i ≤ u.length)
  (fun i => [(0, .own 0 4 0 L r), (1, I p.length), (2, I (p.length + u.length + m.length : Nat)), (3, I u.length), (10, I i)])
  (fun i => [(0, .row 4 true ((p ++ (v.take i ++ u.drop i) ++ m ++ (u.take i ++ v.drop i) ++ q).map B2))]) 0 (Nat.zero_le _) ?_ ?_
 ·simp only [List.take_zero, List.drop_zero, List.nil_append]
  exact (sR [] [])
 ·intro i hi
  simp only [List.length_append] at hL
  by_cases hlt : i < u.length
  ·obtain ⟨x, y, g1, g2, g3, g4⟩ := B6s (p := p) (m := m) (q := q) hn hlt
   have ea : IntKind.i64.wrap ((p.length : Int) + (i : Int)) = ((p.length + i : Nat) : Int) := by rw [A5 (by omega) (by omega)]; omega
   have eb : IntKind.i64.wrap (((p.length + u.length + m.length : Nat) : Int) + (i : Int)) = ((p.length + u.length + m.length + i : Nat) : Int) := by rw [A5 (by omega) (by omega)]; omega
   have ei : IntKind.i64.wrap ((i : Int) + 1) = ((i + 1 : Nat) : Int) := by rw [A5 (by omega) (by omega)]; omega
   have ia : ((p.length + i : Nat) : Int) < (L : Int) := by omega
   have ib : ((p.length + u.length + m.length + i : Nat) : Int) < (L : Int) := by omega
   have d1 : decide (i < u.length) = true := decide_eq_true hlt
   have hnx : ((((p ++ (v.take i ++ u.drop i) ++ m ++ (u.take i ++ v.drop i) ++ q).map B2).set (p.length + i) [.v (.string (D6 (y).1)), .v (.int .i64 (y).2.1), .v (.int .i64 (y).2.2.1), .sl 2 ((y).2.2.2.map D7)]).set (p.length + u.length + m.length + i) [.v (.string (D6 (x).1)), .v (.int .i64 (x).2.1), .v (.int .i64 (x).2.2.1), .sl 2 ((x).2.2.2.map D7)]) = (p ++ (v.take (i + 1) ++ u.drop (i + 1)) ++ m ++ (u.take (i + 1) ++ v.drop (i + 1)) ++ q).map B2 := by
    rw [← g4, List.map_set, List.map_set]; rfl
   have h3 : (((p ++ (v.take i ++ u.drop i) ++ m ++ (u.take i ++ v.drop i) ++ q).map B2).set (p.length + i) [.v (.string (D6 (y).1)), .v (.int .i64 (y).2.1), .v (.int .i64 (y).2.2.1), .sl 2 ((y).2.2.2.map D7)])[p.length + u.length + m.length + i]? = some [.v (.string (D6 (y).1)), .v (.int .i64 (y).2.1), .v (.int .i64 (y).2.2.1), .sl 2 ((y).2.2.2.map D7)] := by
    have := congrArg (Option.map B2) g3
    rw [← List.getElem?_map, List.map_set] at this
    exact this
   generalize p ++ (v.take i ++ u.drop i) ++ m ++ (u.take i ++ v.drop i) ++ q = d at *
   have h1 : (d.map B2)[p.length + i]? = some [.v (.string (D6 (x).1)), .v (.int .i64 (x).2.1), .v (.int .i64 (x).2.2.1), .sl 2 ((x).2.2.2.map D7)] := by rw [List.getElem?_map, g1]; rfl
   have h2 : (d.map B2)[p.length + u.length + m.length + i]? = some [.v (.string (D6 (y).1)), .v (.int .i64 (y).2.1), .v (.int .i64 (y).2.2.1), .sl 2 ((y).2.2.2.map D7)] := by rw [List.getElem?_map, g2]; rfl
   generalize d.map B2 = dm at *
   simp only [go_sem, d1, ea, eb, ia, ib, h1, h2, h3, ei, hnx]
   exact C3 (i + 1) (by first | omega | (simp only; omega)) hlt (sR [] [])
  ·obtain rfl : i = u.length := by omega
   have d1 : decide (u.length < u.length) = false := decide_eq_false (by omega)
   have e1 : v.take u.length = v := List.take_of_length_le (by omega)
   have e2 : u.drop u.length = [] := List.drop_length
   have e3 : u.take u.length = u := List.take_length
   have e4 : v.drop u.length = [] := List.drop_of_length_le (by omega)
   simp only [e1, e2, e3, e4, List.append_nil]
   simp only [go_sem, d1]
   refine wO [] [] ?_
   simp only [go_sem, X9, exists_eq_left', Option.some.injEq]
   simp [G1, G2, B1, AV.asOwn, B3, A9, AV.isNil, J8, B6, B4, B8, ren]

set_option maxHeartbeats 1000000 in
theorem B6r (g L : Nat) (r : Bool)  (p x y q : List F4) (hx : x ≠ []) (hy : y ≠ []) (hL : L = (p ++ x ++ y ++ q).length) (hb : L ≤ 281474976710656) :
  Meets Tryz.prog E0 J7 [.own 0 4 0 L r, I p.length, I (p.length + x.length : Nat), I (p.length + x.length + y.length : Nat), .fn g [] []] [(0, .row 4 true ((p ++ x ++ y ++ q).map B2))] (.tp []) [(0, .row 4 true ((p ++ y ++ x ++ q).map B2))] := by
 generalize hout : p ++ y ++ x ++ q = out
 have hLs : L = p.length + x.length + y.length + q.length := by rw [hL]; simp only [List.length_append]
 obtain ⟨M, hM⟩ : ∃ M, p.length + x.length = M := ⟨_, rfl⟩
 have ex : IntKind.i64.wrap (((p.length + x.length : Nat) : Int) - (p.length : Int)) = (x.length : Int) := by rw [A5 (by omega) (by omega)]; omega
 have ey : IntKind.i64.wrap (((p.length + x.length + y.length : Nat) : Int) - ((p.length + x.length : Nat) : Int)) = (y.length : Int) := by rw [A5 (by omega) (by omega)]; omega
 rw [hM] at ex ey ⊢
 refine A4m (by simp) (C2 (by simp [B5, AV.ids, A4]) (by simp [Ob.live, Ob.ids, A4, B5, AV.ids])) (C2 (by simp [B5, AV.ids, A4]) (by simp [Ob.live, Ob.ids, A4, B5, AV.ids])) (by simp [A4]) (by simp [A4]) ?_
 simp only [go_sem, A0c, ex, ey]
 refine C8 (fun s : List F4 × List F4 × List F4 × List F4 => s.2.1.length + s.2.2.1.length) (fun s => s.2.1 ≠ [] ∧ s.2.2.1 ≠ [] ∧ s.1.length + s.2.1.length = M ∧ s.1.length + s.2.1.length + s.2.2.1.length + s.2.2.2.length = L ∧ s.1 ++ s.2.2.1 ++ s.2.1 ++ s.2.2.2 = out)
  (fun s => [(0, .own 0 4 0 L r), (2, I M), (4, .fn g [] []), (10, I s.2.1.length), (11, I s.2.2.1.length)])
  (fun s => [(0, .row 4 true ((s.1 ++ s.2.1 ++ s.2.2.1 ++ s.2.2.2).map B2))]) (p, x, y, q) ⟨hx, hy, hM, hLs.symm, hout⟩ (sR [] []) ?_
 clear hout ex ey hL hLs hM hx hy
 rintro ⟨p, x, y, q⟩ ⟨hx, hy, hM, hLs, hout⟩
 simp only at hx hy hM hLs hout ⊢
 have hxl : 0 < x.length := List.length_pos_iff.2 hx
 have hyl : 0 < y.length := List.length_pos_iff.2 hy
 have ea : IntKind.i64.wrap ((M : Int) - (x.length : Int)) = (p.length : Int) := by rw [A5 (by omega) (by omega)]; omega
 rcases Nat.lt_trichotomy x.length y.length with hlt | heq | hgt
 ·have d1 : decide ((x.length : Int) = (y.length : Int)) = false := decide_eq_false (by omega)
  have d1' : decide (x.length = y.length) = false := decide_eq_false (by omega)
  have d2 : decide (y.length < x.length) = false := decide_eq_false (by omega)
  obtain ⟨y1, y2, rfl, hy1⟩ := A1c (show y.length - x.length ≤ y.length by omega)
  have hy2 : x.length = y2.length := by simp at hy1 hlt; omega
  have n1 : y2 ≠ [] := fun e => by rw [e, List.length_nil] at hy2; omega
  have n2 : y1 ≠ [] := fun e => by have e' := congrArg List.length e; simp only [List.length_append, List.length_nil] at e' hy1 hlt; omega
  have h := A1o g L r  p x y1 y2 q hy2 (by simp at hLs ⊢; omega) hb
  have e1 : p.length + x.length + y1.length = M + y1.length := by omega
  rw [e1] at h
  have e2 : p ++ x ++ (y1 ++ y2) ++ q = p ++ x ++ y1 ++ y2 ++ q := by simp
  rw [e2]
  have e3 : IntKind.i64.wrap (IntKind.i64.wrap ((M : Int) + ((y1 ++ y2).length : Int)) - (x.length : Int)) = ((M + y1.length : Nat) : Int) := by
   rw [A5 (n := (M : Int) + _) (by omega) (by omega), A5 (by omega) (by omega)]; simp; omega
  have e4 : IntKind.i64.wrap (((y1 ++ y2).length : Int) - (x.length : Int)) = (y1.length : Int) := by
   rw [A5 (by omega) (by omega)]; simp; omega
  generalize hyy : (y1 ++ y2).length = yl at *
  simp only [go_sem, d1, d1', d2, ea, e3, e4]
  refine oB (h) ?_
  simp only [go_sem, e4]
  refine C3 (p, y2, y1, x ++ q) (by simp at hyy ⊢; omega) ⟨n1, n2, by simp only; omega, by simp at hyy ⊢; omega, by rw [← hout]; simp⟩ ?_
  rw [hy2]
  have e5 : p ++ y2 ++ y1 ++ (x ++ q) = p ++ y2 ++ y1 ++ x ++ q := by simp
  simp only
  rw [e5]
  exact (sR [] [])
 ·have d1 : decide ((x.length : Int) = (y.length : Int)) = true := decide_eq_true (by omega)
  have d1' : decide (x.length = y.length) = true := decide_eq_true heq
  have h := A1o g L r  p x [] y q heq (by simp at hLs ⊢; omega) hb
  have e1 : p.length + x.length + ([] : List F4).length = M := by simp; omega
  rw [e1, List.append_nil, List.append_nil, hout] at h
  simp only [go_sem, d1, d1', ea]
  refine oB (h) ?_
  simp only [go_sem]
  refine wO [] [] ?_
  simp only [go_sem, A0b, exists_eq_left', Option.some.injEq]
  simp [G1, G2, B1, AV.asOwn, B3, A9, AV.isNil, J8, B6, B4, B8, ren]
 ·have d1 : decide ((x.length : Int) = (y.length : Int)) = false := decide_eq_false (by omega)
  have d1' : decide (x.length = y.length) = false := decide_eq_false (by omega)
  have d2 : decide (y.length < x.length) = true := decide_eq_true hgt
  obtain ⟨x1, x2, rfl, hx1⟩ := A1c (show y.length ≤ x.length by omega)
  have hx2 : x2.length < (x1 ++ x2).length := by simp; omega
  have n1 : x2 ≠ [] := fun e => by have e' := congrArg List.length e; simp only [List.length_append, List.length_nil] at e' hx1 hgt; omega
  have n2 : x1 ≠ [] := fun e => by have e' := congrArg List.length e; simp only [List.length_append, List.length_nil] at e' hx1 hgt; omega
  have h := A1o g L r  p x1 x2 y q hx1 (by simp at hLs ⊢; omega) hb
  have e1 : p.length + x1.length + x2.length = M := by simp at hM; omega
  rw [e1, hx1] at h
  have e2 : p ++ (x1 ++ x2) ++ y ++ q = p ++ x1 ++ x2 ++ y ++ q := by simp
  rw [e2]
  have e4 : IntKind.i64.wrap (((x1 ++ x2).length : Int) - (y.length : Int)) = (x2.length : Int) := by
   rw [A5 (by omega) (by omega)]; simp; omega
  generalize hxx : (x1 ++ x2).length = xl at *
  simp only [go_sem, d1, d1', d2, ea]
  refine oB (h) ?_
  simp only [go_sem, e4]
  refine C3 (p ++ y, x2, x1, q) (by simp at hxx ⊢; omega) ⟨n1, n2, by simp at hxx ⊢; omega, by simp at hxx ⊢; omega, by rw [← hout]; simp⟩ ?_
  simp only [hx1]
  exact (sR [] [])

def B0 (c : F4 → F4 → Int) (x y : F4) : Bool := decide (c x y < 0)

set_option maxHeartbeats 1000000 in
theorem A4x (g L : Nat) (r : Bool)  (c : F4 → F4 → Int) (D : F4 → Prop) (hc : ∀ x y, D x → D y → Meets Tryz.prog E0 g ([(.ag [Q5 (D6 (x).1), I (x).2.1, I (x).2.2.1, M6 (x).2.2.2]), (.ag [Q5 (D6 (y).1), I (y).2.1, I (y).2.2.1, M6 (y).2.2.2])] ++ []) [] (I (c x y)) [])
  (p m q : List F4) (hD : ∀ x ∈ m, D x) (hL : L = (p ++ m ++ q).length) (hb : L ≤ 281474976710656) :
  Meets Tryz.prog E0 G8 [.own 0 4 0 L r, I p.length, I (p.length + m.length : Nat), .fn g [] []] [(0, .row 4 true ((p ++ m ++ q).map B2))] (.tp []) [(0, .row 4 true ((p ++ F7 (B0 c) m ++ q).map B2))] := by
 have hLs : L = p.length + m.length + q.length := by rw [hL]; simp only [List.length_append]
 obtain ⟨N, hN⟩ : ∃ N, p.length + m.length = N := ⟨_, rfl⟩
 rw [hN]
 refine U7 (by simp) (C2 (by simp [B5, AV.ids, A4]) (by simp [Ob.live, Ob.ids, A4, B5, AV.ids])) (C2 (by simp [B5, AV.ids, A4]) (by simp [Ob.live, Ob.ids, A4, B5, AV.ids])) (by simp [A4]) (by simp [A4]) ?_
 have e1 : IntKind.i64.wrap ((p.length : Int) + 1) = ((p.length + 1 : Nat) : Int) := by rw [A5 (by omega) (by omega)]; omega
 have e0 : p ++ m ++ q = p ++ F7 (B0 c) (m.take 1) ++ m.drop 1 ++ q := by
  cases m with
  | nil => simp [F7]
  | cons x m => simp [F7, A9o, A3l]
 simp only [go_sem, O5, e1]
 refine C8 (fun k : Nat => m.length + 1 - k) (fun k => 1 ≤ k ∧ k ≤ m.length + 1 ∧ (k ≤ m.length ∨ (k = 1 ∧ m = [])))
  (fun k => [(0, .own 0 4 0 L r), (1, I p.length), (2, I N), (3, .fn g [] []), (8, I (p.length + k : Nat))])
  (fun k => [(0, .row 4 true ((p ++ F7 (B0 c) (m.take k) ++ m.drop k ++ q).map B2))]) 1 ⟨Nat.le_refl _, by omega, ?_⟩ ?_ ?_
 ·cases m with
  | nil => exact .inr ⟨rfl, rfl⟩
  | cons x m => exact .inl (by simp)
 ·rw [e0]; exact (sR [] [])
 clear e0 e1
 rintro k ⟨hk1, hk2, hk3⟩
 by_cases hlt : k < m.length
 ·have d1 : decide (p.length + k < N) = true := decide_eq_true (by omega)
  have ei : IntKind.i64.wrap (((p.length + k : Nat) : Int) + 1) = ((p.length + (k + 1) : Nat) : Int) := by rw [A5 (by omega) (by omega)]; omega
  obtain ⟨m1, x, m2, rfl, rfl⟩ := C7u hlt
  have t1 : (m1 ++ x :: m2).take m1.length = m1 := List.take_left
  have t2 : (m1 ++ x :: m2).drop m1.length = x :: m2 := List.drop_left
  have t3 : (m1 ++ x :: m2).take (m1.length + 1) = m1 ++ [x] := by rw [show m1 ++ x :: m2 = (m1 ++ [x]) ++ m2 by simp, List.take_left' (by simp)]
  have t4 : (m1 ++ x :: m2).drop (m1.length + 1) = m2 := by rw [show m1 ++ x :: m2 = (m1 ++ [x]) ++ m2 by simp, List.drop_left' (by simp)]
  have hx : D x := hD x (by simp)
  have hS : ∀ y ∈ F7 (B0 c) m1, D y := fun y hy => hD y (by simp [(Y1 _ y m1).1 hy])
  have hSl := O6 (B0 c) m1
  have hnext := A20 (B0 c) m1 x
  rw [t1, t2]
  generalize hS0 : F7 (B0 c) m1 = S at *
  have hml : (m1 ++ x :: m2).length = m1.length + 1 + m2.length := by simp; omega
  rw [hml] at hN hLs hk2 hk3 hlt ⊢
  simp only [go_sem, d1]
  refine C8 (fun s : List F4 × List F4 => s.1.length) (fun s => s.1.length + s.2.length = m1.length ∧ (∀ y ∈ s.1, D y) ∧ A9o (B0 c) x s.1 ++ s.2 = F7 (B0 c) (m1 ++ [x]))
   (fun s => [(0, .own 0 4 0 L r), (1, I p.length), (2, I N), (3, .fn g [] []), (8, I (p.length + m1.length : Nat)), (9, I (p.length + s.1.length : Nat))])
   (fun s => [(0, .row 4 true ((p ++ s.1 ++ x :: (s.2 ++ m2 ++ q)).map B2))]) (S, []) ⟨by simp; omega, hS, by rw [hnext]; simp⟩ ?_ ?_
  ·simp only [hSl, List.nil_append]
   rw [show p ++ S ++ x :: m2 ++ q = p ++ S ++ x :: (m2 ++ q) by simp]
   exact (sR [] [])
  rintro ⟨s1, s2⟩ ⟨hs1, hs2, hs3⟩
  simp only at hs1 hs2 hs3 ⊢
  rcases B0f s1 with rfl | ⟨s1, y, rfl⟩
  ·have d2 : decide (p.length < p.length) = false := decide_eq_false (by omega)
   simp only [List.length_nil, Nat.add_zero]
   rw [D2f] at hs3
   have e2 : p ++ [] ++ x :: (s2 ++ m2 ++ q) = p ++ F7 (B0 c) (m1 ++ [x]) ++ m2 ++ q := by rw [← hs3]; simp
   rw [e2]
   simp only [go_sem, d2, ei]
   refine C3 (m1.length + 1) (by first | omega | (simp only; omega)) ⟨by omega, by omega, .inl (by omega)⟩ ?_
   simp only [t3, t4]
   exact (sR [] [])
  ·have hy : D y := hs2 y (by simp)
   have hcc := hc x y hx hy
   have hl1 : (s1 ++ [y]).length = s1.length + 1 := by simp
   rw [hl1] at hs1
   simp only [hl1]
   have d2 : decide (p.length < p.length + (s1.length + 1)) = true := decide_eq_true (by omega)
   rw [C1b] at hs3
   obtain ⟨g1, g2, g3, g4, _⟩ := B6c (p ++ s1) y x (s2 ++ m2 ++ q) (n := p.length + s1.length) (m := p.length + (s1.length + 1)) (by simp) (by omega)
   have ed : p ++ (s1 ++ [y]) ++ x :: (s2 ++ m2 ++ q) = p ++ s1 ++ y :: x :: (s2 ++ m2 ++ q) := by simp
   rw [ed]
   have em : IntKind.i64.wrap (((p.length + (s1.length + 1) : Nat) : Int) - 1) = ((p.length + s1.length : Nat) : Int) := by rw [A5 (by omega) (by omega)]; omega
   have ia : ((p.length + s1.length : Nat) : Int) < (L : Int) := by omega
   have ib : ((p.length + (s1.length + 1) : Nat) : Int) < (L : Int) := by omega
   have hnx : (((p ++ s1 ++ y :: x :: (s2 ++ m2 ++ q)).map B2).set (p.length + (s1.length + 1)) [.v (.string (D6 (y).1)), .v (.int .i64 (y).2.1), .v (.int .i64 (y).2.2.1), .sl 2 ((y).2.2.2.map D7)]).set (p.length + s1.length) [.v (.string (D6 (x).1)), .v (.int .i64 (x).2.1), .v (.int .i64 (x).2.2.1), .sl 2 ((x).2.2.2.map D7)] = (p ++ s1 ++ x :: y :: (s2 ++ m2 ++ q)).map B2 := by
    rw [← g4, List.map_set, List.map_set]; rfl
   have h3 : (((p ++ s1 ++ y :: x :: (s2 ++ m2 ++ q)).map B2).set (p.length + (s1.length + 1)) [.v (.string (D6 (y).1)), .v (.int .i64 (y).2.1), .v (.int .i64 (y).2.2.1), .sl 2 ((y).2.2.2.map D7)])[p.length + s1.length]? = some [.v (.string (D6 (y).1)), .v (.int .i64 (y).2.1), .v (.int .i64 (y).2.2.1), .sl 2 ((y).2.2.2.map D7)] := by
    have := congrArg (Option.map B2) g3
    rw [← List.getElem?_map, List.map_set] at this
    exact this
   have h1 : ((p ++ s1 ++ y :: x :: (s2 ++ m2 ++ q)).map B2)[p.length + s1.length]? = some [.v (.string (D6 (y).1)), .v (.int .i64 (y).2.1), .v (.int .i64 (y).2.2.1), .sl 2 ((y).2.2.2.map D7)] := by rw [List.getElem?_map, g1]; rfl
   have h2 : ((p ++ s1 ++ y :: x :: (s2 ++ m2 ++ q)).map B2)[p.length + (s1.length + 1)]? = some [.v (.string (D6 (x).1)), .v (.int .i64 (x).2.1), .v (.int .i64 (x).2.2.1), .sl 2 ((x).2.2.2.map D7)] := by rw [List.getElem?_map, g2]; rfl
   cases hlt2 : decide (c x y < 0)
   ·have hlt3 : B0 c x y = false := hlt2
    rw [hlt3, if_neg (by decide)] at hs3
    have e2 : p ++ s1 ++ y :: x :: (s2 ++ m2 ++ q) = p ++ F7 (B0 c) (m1 ++ [x]) ++ m2 ++ q := by rw [← hs3]; simp
    generalize (p ++ s1 ++ y :: x :: (s2 ++ m2 ++ q)) = d at *
    subst e2
    generalize h5 : List.map B2 (p ++ F7 (B0 c) (m1 ++ [x]) ++ m2 ++ q) = dm at *
    simp only [go_sem, d2, hl1, em, ia, ib, h1, h2]
    refine A6 (hcc) ?_
    simp only [go_sem, hlt2, ei]
    refine C3 (m1.length + 1) (by first | omega | (simp only; omega)) ⟨by omega, by omega, .inl (by omega)⟩ ?_
    simp only [t3, t4, ← h5]
    exact (sR [] [])
   ·have hlt3 : B0 c x y = true := hlt2
    rw [hlt3, if_pos rfl] at hs3
    generalize hdm : List.map B2 (p ++ s1 ++ y :: x :: (s2 ++ m2 ++ q)) = dm at *
    simp only [go_sem, d2, hl1, em, ia, ib, h1, h2]
    refine A6 (hcc) ?_
    simp only [go_sem, hlt2, em, ia, ib, h1, h2, h3, hnx]
    refine C3 (s1, y :: s2) (by simp) ⟨by simp only [List.length_cons]; omega, fun z hz => hs2 z (by simp [hz]), by rw [← hs3]; simp⟩ ?_
    simp only [List.cons_append]
    exact (sR [] [])
 ·have d1 : decide (p.length + k < N) = false := decide_eq_false (by omega)
  have t1 : m.take k = m := List.take_of_length_le (by omega)
  have t2 : m.drop k = [] := List.drop_of_length_le (by omega)
  rw [t1, t2, List.append_nil]
  simp only [go_sem, d1]
  refine wO [] [] ?_
  simp only [go_sem, O4, exists_eq_left', Option.some.injEq]
  simp [G1, G2, B1, AV.asOwn, B3, A9, AV.isNil, J8, B6, B4, B8, ren]

theorem A45 {x y : Nat} (h : x + y ≤ 562949953421312) : IntKind.i64.wrap ((x : Int) + (y : Int)) = ((x + y : Nat) : Int) ∧ IntKind.u64.wrap ((x + y : Nat) : Int) = ((x + y : Nat) : Int) ∧ IntKind.i64.wrap (((x + y) / 2 ^ min 1 64 : Nat) : Int) = (((x + y) / 2 : Nat) : Int) := by
 rw [show 2 ^ min 1 64 = 2 from rfl]
 refine ⟨?_, ?_, ?_⟩
 ·rw [A5 (by omega) (by omega)]; omega
 ·rw [A0t]; omega
 ·rw [A5 (by omega) (by omega)]

set_option maxHeartbeats 1000000 in
theorem C04 (g L : Nat) (r : Bool)  (c : F4 → F4 → Int) (D : F4 → Prop) (hc : ∀ x y, D x → D y → Meets Tryz.prog E0 g ([(.ag [Q5 (D6 (x).1), I (x).2.1, I (x).2.2.1, M6 (x).2.2.2]), (.ag [Q5 (D6 (y).1), I (y).2.1, I (y).2.2.1, M6 (y).2.2.2])] ++ []) [] (I (c x y)) []) (hO : Below3 (B0 c))
  (p b q : List F4) (x : F4) (hx : D x) (hb : ∀ y ∈ b, D y) (sb : Srt (B0 c) b) (hL : L = (p ++ [x] ++ b ++ q).length) (hLb : L ≤ 281474976710656) :
  Meets Tryz.prog E0 C0 [.own 0 4 0 L r, I p.length, I (p.length + 1 : Nat), I (p.length + 1 + b.length : Nat), .fn g [] []] [(0, .row 4 true ((p ++ [x] ++ b ++ q).map B2))] (.tp []) [(0, .row 4 true ((p ++ mrg (B0 c) [x] b ++ q).map B2))] := by
 have hLs : L = p.length + 1 + b.length + q.length := by rw [hL]; simp only [List.length_append, List.length_cons, List.length_nil]
 refine R3 (by simp) (C2 (by simp [B5, AV.ids, A4]) (by simp [Ob.live, Ob.ids, A4, B5, AV.ids])) (C2 (by simp [B5, AV.ids, A4]) (by simp [Ob.live, Ob.ids, A4, B5, AV.ids])) (by simp [A4]) (by simp [A4]) ?_
 have e1 : IntKind.i64.wrap (((p.length + 1 : Nat) : Int) - (p.length : Int)) = 1 := by rw [A5 (by omega) (by omega)]; omega
 have d1 : decide ((1 : Int) = 1) = true := rfl
 simp only [go_sem, I7, e1, d1]
 refine C8 (fun s : Nat × Nat => s.2 - s.1) (fun s => s.1 ≤ s.2 ∧ s.2 ≤ b.length ∧ (∀ i y, i + 1 = s.1 → b[i]? = some y → B0 c y x = true) ∧ (∀ y, b[s.2]? = some y → B0 c y x = false))
  (fun s => [(0, .own 0 4 0 L r), (1, I p.length), (4, .fn g [] []), (10, I (p.length + 1 + s.1 : Nat)), (11, I (p.length + 1 + s.2 : Nat))])
  (fun s => [(0, .row 4 true ((p ++ [x] ++ b ++ q).map B2))]) (0, b.length) ⟨Nat.zero_le _, Nat.le_refl _, by omega, fun y h => by simp at h⟩ (sR [] []) ?_
 rintro ⟨s, t⟩ ⟨hst, htb, hs, ht⟩
 simp only at hst htb hs ht ⊢
 by_cases hlt : s < t
 ·have d2 : decide (p.length + 1 + s < p.length + 1 + t) = true := decide_eq_true (by omega)
  obtain ⟨h1, h2, h3⟩ := A45 (x := p.length + 1 + s) (y := p.length + 1 + t) (by omega)
  have hh : (p.length + 1 + s + (p.length + 1 + t)) / 2 = p.length + 1 + (s + t) / 2 := by omega
  rw [hh] at h3
  have hk1 : s ≤ (s + t) / 2 := by omega
  have hk2 : (s + t) / 2 < t := by omega
  generalize (s + t) / 2 = k at *
  obtain ⟨y, hy, hym⟩ := A6r (show k < b.length by omega)
  have hcc := hc y x (hb y hym) hx
  have g1 : ((p ++ [x] ++ b ++ q).map B2)[p.length + 1 + k]? = some [.v (.string (D6 (y).1)), .v (.int .i64 (y).2.1), .v (.int .i64 (y).2.2.1), .sl 2 ((y).2.2.2.map D7)] := by rw [List.getElem?_map, C7l (p := p) (a := [x]) (b := b) (q := q) (n := p.length + 1 + k) hy (by simp)]; rfl
  have g2 : ((p ++ [x] ++ b ++ q).map B2)[p.length]? = some [.v (.string (D6 (x).1)), .v (.int .i64 (x).2.1), .v (.int .i64 (x).2.2.1), .sl 2 ((x).2.2.2.map D7)] := by rw [List.getElem?_map, C7k (p := p) (a := [x]) (b := b) (q := q) (n := p.length) (k := 0) (y := x) rfl rfl]; rfl
  have ia : ((p.length + 1 + k : Nat) : Int) < (L : Int) := by omega
  have ib : (p.length : Int) < (L : Int) := by omega
  have ek : IntKind.i64.wrap (((p.length + 1 + k : Nat) : Int) + 1) = ((p.length + 1 + (k + 1) : Nat) : Int) := by rw [A5 (by omega) (by omega)]; omega
  generalize hdm : (p ++ [x] ++ b ++ q).map B2 = dm at *
  cases hl2 : decide (c y x < 0)
  ·have hl3 : B0 c y x = false := hl2
   simp only [go_sem, L0, d2, h1, h2, h3, ia, ib, g1, g2]
   refine A6 (hcc) ?_
   simp only [go_sem, hl2]
   exact C3 (s, k) (by first | omega | (simp only; omega)) ⟨hk1, by simp only; omega, hs, fun z hz => by simp only at hz; rw [hy] at hz; injection hz with hz; rw [← hz]; exact hl3⟩ (sR [] [])
  ·have hl3 : B0 c y x = true := hl2
   simp only [go_sem, L0, d2, h1, h2, h3, ia, ib, g1, g2]
   refine A6 (hcc) ?_
   simp only [go_sem, hl2, ek]
   have hnew : ∀ i z, i + 1 = k + 1 → b[i]? = some z → B0 c z x = true := by
    intro i z hi hz
    obtain rfl : i = k := by omega
    rw [hy] at hz; injection hz with hz; rw [← hz]; exact hl3
   exact C3 (k + 1, t) (by first | omega | (simp only; omega)) ⟨hk2, htb, hnew, ht⟩ (sR [] [])
 ·obtain rfl : s = t := by omega
  have d2 : decide (p.length + 1 + s < p.length + 1 + s) = false := decide_eq_false (by omega)
  obtain ⟨b1, b2, rfl, rfl⟩ := A1c htb
  have hmrg : mrg (B0 c) [x] (b1 ++ b2) = b1 ++ x :: b2 := by
   refine C0a hO x sb (fun y hy => ?_) (fun y hy => ?_)
   ·obtain ⟨l1, hy⟩ := B28 hy
    exact hs (b1.length - 1) y (by omega) (by rw [List.getElem?_append_left (by omega)]; exact hy)
   ·obtain ⟨l1, hy⟩ := B2k hy
    exact ht y (by rw [List.getElem?_append_right (Nat.le_refl _), Nat.sub_self]; exact hy)
  rw [hmrg]
  have eo : p ++ (b1 ++ x :: b2) ++ q = p ++ b1 ++ x :: (b2 ++ q) := by simp
  rw [eo]
  have hbl : (b1 ++ b2).length = b1.length + b2.length := List.length_append
  rw [hbl] at hLs
  have ek : IntKind.i64.wrap (((p.length + 1 + b1.length : Nat) : Int) - 1) = ((p.length + b1.length : Nat) : Int) := by rw [A5 (by omega) (by omega)]; omega
  clear hs ht hbl hmrg
  simp only [go_sem, L0, W4, d2]
  refine C8 (fun u : List F4 × List F4 => u.2.length) (fun u => b1 = u.1 ++ u.2)
   (fun u => [(0, .own 0 4 0 L r), (10, I (p.length + 1 + b1.length : Nat)), (13, I (p.length + u.1.length : Nat))])
   (fun u => [(0, .row 4 true ((p ++ u.1 ++ x :: (u.2 ++ b2 ++ q)).map B2))]) ([], b1) rfl ?_ ?_
  ·have e2 : p ++ [x] ++ (b1 ++ b2) ++ q = p ++ [] ++ x :: (b1 ++ b2 ++ q) := by simp
   rw [e2]
   exact (sR [] [])
  ·rintro ⟨u1, u2⟩ hu
   simp only at hu ⊢
   cases u2 with
   | nil =>
    rw [List.append_nil] at hu
    subst hu
    have d3 : decide (p.length + b1.length < p.length + b1.length) = false := decide_eq_false (by omega)
    have e2 : p ++ b1 ++ x :: ([] ++ b2 ++ q) = p ++ b1 ++ x :: (b2 ++ q) := by simp
    rw [e2]
    simp only [go_sem, P2, ek, d3]
    refine wO [] [] ?_
    simp only [go_sem, N0, exists_eq_left', Option.some.injEq]
    simp [G1, G2, B1, AV.asOwn, B3, A9, AV.isNil, J8, B6, B4, B8, ren]
   | cons y u2 =>
    have hbl : b1.length = u1.length + (u2.length + 1) := by rw [hu]; simp
    have d3 : decide (p.length + u1.length < p.length + b1.length) = true := decide_eq_true (by omega)
    obtain ⟨g1, g2, _, _, g3, g4⟩ := B6c (p ++ u1) x y (u2 ++ b2 ++ q) (n := p.length + u1.length) (m := p.length + (u1.length + 1)) (by simp) (by omega)
    have e2 : p ++ u1 ++ x :: (y :: u2 ++ b2 ++ q) = p ++ u1 ++ x :: y :: (u2 ++ b2 ++ q) := by simp
    rw [e2]
    have em : IntKind.i64.wrap (((p.length + u1.length : Nat) : Int) + 1) = ((p.length + (u1.length + 1) : Nat) : Int) := by rw [A5 (by omega) (by omega)]; omega
    have ia : ((p.length + u1.length : Nat) : Int) < (L : Int) := by omega
    have ib : ((p.length + (u1.length + 1) : Nat) : Int) < (L : Int) := by omega
    have hnx : (((p ++ u1 ++ x :: y :: (u2 ++ b2 ++ q)).map B2).set (p.length + u1.length) [.v (.string (D6 (y).1)), .v (.int .i64 (y).2.1), .v (.int .i64 (y).2.2.1), .sl 2 ((y).2.2.2.map D7)]).set (p.length + (u1.length + 1)) [.v (.string (D6 (x).1)), .v (.int .i64 (x).2.1), .v (.int .i64 (x).2.2.1), .sl 2 ((x).2.2.2.map D7)] = (p ++ u1 ++ y :: x :: (u2 ++ b2 ++ q)).map B2 := by
     rw [← g4, List.map_set, List.map_set]; rfl
    have h3 : (((p ++ u1 ++ x :: y :: (u2 ++ b2 ++ q)).map B2).set (p.length + u1.length) [.v (.string (D6 (y).1)), .v (.int .i64 (y).2.1), .v (.int .i64 (y).2.2.1), .sl 2 ((y).2.2.2.map D7)])[p.length + (u1.length + 1)]? = some [.v (.string (D6 (y).1)), .v (.int .i64 (y).2.1), .v (.int .i64 (y).2.2.1), .sl 2 ((y).2.2.2.map D7)] := by
     have := congrArg (Option.map B2) g3
     rw [← List.getElem?_map, List.map_set] at this
     exact this
    have h1 : ((p ++ u1 ++ x :: y :: (u2 ++ b2 ++ q)).map B2)[p.length + u1.length]? = some [.v (.string (D6 (x).1)), .v (.int .i64 (x).2.1), .v (.int .i64 (x).2.2.1), .sl 2 ((x).2.2.2.map D7)] := by rw [List.getElem?_map, g1]; rfl
    have h2 : ((p ++ u1 ++ x :: y :: (u2 ++ b2 ++ q)).map B2)[p.length + (u1.length + 1)]? = some [.v (.string (D6 (y).1)), .v (.int .i64 (y).2.1), .v (.int .i64 (y).2.2.1), .sl 2 ((y).2.2.2.map D7)] := by rw [List.getElem?_map, g2]; rfl
    generalize hdm : List.map B2 (p ++ u1 ++ x :: y :: (u2 ++ b2 ++ q)) = dm at *
    simp only [go_sem, P2, ek, d3, em, ia, ib, h1, h2, h3, hnx]
    refine C3 (u1 ++ [y], u2) (by simp) (by simp only; rw [hu]; simp) ?_
    have e3 : p ++ u1 ++ y :: x :: (u2 ++ b2 ++ q) = p ++ (u1 ++ [y]) ++ x :: (u2 ++ b2 ++ q) := by simp
    rw [e3]
    simp only [List.length_append, List.length_cons, List.length_nil, Nat.zero_add]
    exact (sR [] [])

set_option maxHeartbeats 1000000 in
theorem C05 (g L : Nat) (r : Bool)  (c : F4 → F4 → Int) (D : F4 → Prop) (hc : ∀ x y, D x → D y → Meets Tryz.prog E0 g ([(.ag [Q5 (D6 (x).1), I (x).2.1, I (x).2.2.1, M6 (x).2.2.2]), (.ag [Q5 (D6 (y).1), I (y).2.1, I (y).2.2.1, M6 (y).2.2.2])] ++ []) [] (I (c x y)) []) (hO : Below3 (B0 c))
  (p a q : List F4) (y : F4) (ha1 : a.length ≠ 1) (ha0 : a ≠ []) (hy : D y) (ha : ∀ x ∈ a, D x) (sa : Srt (B0 c) a) (hL : L = (p ++ a ++ [y] ++ q).length) (hLb : L ≤ 281474976710656) :
  Meets Tryz.prog E0 C0 [.own 0 4 0 L r, I p.length, I (p.length + a.length : Nat), I (p.length + a.length + 1 : Nat), .fn g [] []] [(0, .row 4 true ((p ++ a ++ [y] ++ q).map B2))] (.tp []) [(0, .row 4 true ((p ++ mrg (B0 c) a [y] ++ q).map B2))] := by
 have hLs : L = p.length + a.length + 1 + q.length := by rw [hL]; simp only [List.length_append, List.length_cons, List.length_nil]
 obtain ⟨M, hM⟩ : ∃ M, p.length + a.length = M := ⟨_, rfl⟩
 rw [hM]
 have ha0' : 0 < a.length := List.length_pos_iff.2 ha0
 refine R3 (by simp) (C2 (by simp [B5, AV.ids, A4]) (by simp [Ob.live, Ob.ids, A4, B5, AV.ids])) (C2 (by simp [B5, AV.ids, A4]) (by simp [Ob.live, Ob.ids, A4, B5, AV.ids])) (by simp [A4]) (by simp [A4]) ?_
 have e1 : IntKind.i64.wrap ((M : Int) - (p.length : Int)) = (a.length : Int) := by rw [A5 (by omega) (by omega)]; omega
 have d1 : decide ((a.length : Int) = 1) = false := decide_eq_false (by omega)
 have e2 : IntKind.i64.wrap (((M + 1 : Nat) : Int) - (M : Int)) = 1 := by rw [A5 (by omega) (by omega)]; omega
 have d2 : decide ((1 : Int) = 1) = true := rfl
 simp only [go_sem, I7, L1, e1, d1, e2, d2]
 refine C8 (fun s : Nat × Nat => s.2 - s.1) (fun s => s.1 ≤ s.2 ∧ s.2 ≤ a.length ∧ (∀ i z, i + 1 = s.1 → a[i]? = some z → B0 c y z = false) ∧ (∀ z, a[s.2]? = some z → B0 c y z = true))
  (fun s => [(0, .own 0 4 0 L r), (1, I p.length), (2, I M), (4, .fn g [] []), (14, I (p.length + s.1 : Nat)), (15, I (p.length + s.2 : Nat))])
  (fun s => [(0, .row 4 true ((p ++ a ++ [y] ++ q).map B2))]) (0, a.length) ⟨Nat.zero_le _, Nat.le_refl _, by omega, fun y h => by simp at h⟩ ?_ ?_
 ·simp only [hM, Nat.add_zero]
  exact (sR [] [])
 rintro ⟨s, t⟩ ⟨hst, hta, hs, ht⟩
 simp only at hst hta hs ht ⊢
 by_cases hlt : s < t
 ·have d2 : decide (p.length + s < p.length + t) = true := decide_eq_true (by omega)
  obtain ⟨h1, h2, h3⟩ := A45 (x := p.length + s) (y := p.length + t) (by omega)
  have hh : (p.length + s + (p.length + t)) / 2 = p.length + (s + t) / 2 := by omega
  rw [hh] at h3
  have hk1 : s ≤ (s + t) / 2 := by omega
  have hk2 : (s + t) / 2 < t := by omega
  generalize (s + t) / 2 = k at *
  obtain ⟨z, hz, hzm⟩ := A6r (show k < a.length by omega)
  have hcc := hc y z hy (ha z hzm)
  have g1 : ((p ++ a ++ [y] ++ q).map B2)[M]? = some [.v (.string (D6 (y).1)), .v (.int .i64 (y).2.1), .v (.int .i64 (y).2.2.1), .sl 2 ((y).2.2.2.map D7)] := by rw [List.getElem?_map, C7l (p := p) (a := a) (b := [y]) (q := q) (n := M) (k := 0) (y := y) rfl (by omega)]; rfl
  have g2 : ((p ++ a ++ [y] ++ q).map B2)[p.length + k]? = some [.v (.string (D6 (z).1)), .v (.int .i64 (z).2.1), .v (.int .i64 (z).2.2.1), .sl 2 ((z).2.2.2.map D7)] := by rw [List.getElem?_map, C7k (p := p) (a := a) (b := [y]) (q := q) (n := p.length + k) hz rfl]; rfl
  have ia : ((p.length + k : Nat) : Int) < (L : Int) := by omega
  have ib : (M : Int) < (L : Int) := by omega
  have ek : IntKind.i64.wrap (((p.length + k : Nat) : Int) + 1) = ((p.length + (k + 1) : Nat) : Int) := by rw [A5 (by omega) (by omega)]; omega
  generalize hdm : (p ++ a ++ [y] ++ q).map B2 = dm at *
  cases hl2 : decide (c y z < 0)
  ·have hl3 : B0 c y z = false := hl2
   have hnew : ∀ i x, i + 1 = k + 1 → a[i]? = some x → B0 c y x = false := by
    intro i x hi hx
    obtain rfl : i = k := by omega
    rw [hz] at hx; injection hx with hx; rw [← hx]; exact hl3
   simp only [go_sem, K8, d2, h1, h2, h3, ia, ib, g1, g2]
   refine A6 (hcc) ?_
   simp only [go_sem, hl2, ek]
   exact C3 (k + 1, t) (by first | omega | (simp only; omega)) ⟨hk2, hta, hnew, ht⟩ (sR [] [])
  ·have hl3 : B0 c y z = true := hl2
   have hnew : ∀ x, a[k]? = some x → B0 c y x = true := by
    intro x hx
    rw [hz] at hx; injection hx with hx; rw [← hx]; exact hl3
   simp only [go_sem, K8, d2, h1, h2, h3, ia, ib, g1, g2]
   refine A6 (hcc) ?_
   simp only [go_sem, hl2]
   exact C3 (s, k) (by first | omega | (simp only; omega)) ⟨hk1, by simp only; omega, hs, hnew⟩ (sR [] [])
 ·obtain rfl : s = t := by omega
  have d2 : decide (p.length + s < p.length + s) = false := decide_eq_false (by omega)
  obtain ⟨a1, a2, rfl, rfl⟩ := A1c hta
  have hmrg : mrg (B0 c) (a1 ++ a2) [y] = a1 ++ y :: a2 := by
   refine B7f hO y sa (fun z hz => ?_) (fun z hz => ?_)
   ·obtain ⟨l1, hz⟩ := B28 hz
    exact hs (a1.length - 1) z (by omega) (by rw [List.getElem?_append_left (by omega)]; exact hz)
   ·obtain ⟨l1, hz⟩ := B2k hz
    exact ht z (by rw [List.getElem?_append_right (Nat.le_refl _), Nat.sub_self]; exact hz)
  rw [hmrg]
  have eo : p ++ (a1 ++ y :: a2) ++ q = p ++ a1 ++ y :: (a2 ++ q) := by simp
  rw [eo]
  have hal : (a1 ++ a2).length = a1.length + a2.length := List.length_append
  rw [hal] at hLs hM
  clear hs ht hal hmrg e1 d1 ha0' ha1 hta
  simp only [go_sem, K8, W7, d2]
  refine C8 (fun u : List F4 × List F4 => u.1.length) (fun u => a2 = u.1 ++ u.2)
   (fun u => [(0, .own 0 4 0 L r), (14, I (p.length + a1.length : Nat)), (17, I (p.length + a1.length + u.1.length : Nat))])
   (fun u => [(0, .row 4 true ((p ++ a1 ++ u.1 ++ y :: (u.2 ++ q)).map B2))]) (a2, []) (by simp) ?_ ?_
  ·have e2 : p ++ (a1 ++ a2) ++ [y] ++ q = p ++ a1 ++ a2 ++ y :: ([] ++ q) := by simp
   rw [e2, ← hM]
   simp only [Nat.add_assoc]
   exact (sR [] [])
  ·rintro ⟨u1, u2⟩ hu
   simp only at hu ⊢
   rcases B0f u1 with rfl | ⟨u1, z, rfl⟩
   ·rw [List.nil_append] at hu
    subst hu
    have d3 : decide (p.length + a1.length < p.length + a1.length) = false := decide_eq_false (by omega)
    simp only [List.append_nil, List.length_nil, Nat.add_zero]
    simp only [go_sem, P7, d3]
    refine wO [] [] ?_
    simp only [go_sem, N0, exists_eq_left', Option.some.injEq]
    simp [G1, G2, B1, AV.asOwn, B3, A9, AV.isNil, J8, B6, B4, B8, ren]
   ·have hal : a2.length = u1.length + 1 + u2.length := by rw [hu]; simp; omega
    have hl1 : (u1 ++ [z]).length = u1.length + 1 := by simp
    simp only [hl1]
    have d3 : decide (p.length + a1.length < p.length + a1.length + (u1.length + 1)) = true := decide_eq_true (by omega)
    obtain ⟨g1, g2, g3, g4, _⟩ := B6c (p ++ a1 ++ u1) z y (u2 ++ q) (n := p.length + a1.length + u1.length) (m := p.length + a1.length + (u1.length + 1)) (by simp; omega) (by omega)
    have e2 : p ++ a1 ++ (u1 ++ [z]) ++ y :: (u2 ++ q) = p ++ a1 ++ u1 ++ z :: y :: (u2 ++ q) := by simp
    rw [e2]
    have em : IntKind.i64.wrap (((p.length + a1.length + (u1.length + 1) : Nat) : Int) - 1) = ((p.length + a1.length + u1.length : Nat) : Int) := by rw [A5 (by omega) (by omega)]; omega
    have ia : ((p.length + a1.length + u1.length : Nat) : Int) < (L : Int) := by omega
    have ib : ((p.length + a1.length + (u1.length + 1) : Nat) : Int) < (L : Int) := by omega
    have hnx : (((p ++ a1 ++ u1 ++ z :: y :: (u2 ++ q)).map B2).set (p.length + a1.length + (u1.length + 1)) [.v (.string (D6 (z).1)), .v (.int .i64 (z).2.1), .v (.int .i64 (z).2.2.1), .sl 2 ((z).2.2.2.map D7)]).set (p.length + a1.length + u1.length) [.v (.string (D6 (y).1)), .v (.int .i64 (y).2.1), .v (.int .i64 (y).2.2.1), .sl 2 ((y).2.2.2.map D7)] = (p ++ a1 ++ u1 ++ y :: z :: (u2 ++ q)).map B2 := by
     rw [← g4, List.map_set, List.map_set]; rfl
    have h3 : (((p ++ a1 ++ u1 ++ z :: y :: (u2 ++ q)).map B2).set (p.length + a1.length + (u1.length + 1)) [.v (.string (D6 (z).1)), .v (.int .i64 (z).2.1), .v (.int .i64 (z).2.2.1), .sl 2 ((z).2.2.2.map D7)])[p.length + a1.length + u1.length]? = some [.v (.string (D6 (z).1)), .v (.int .i64 (z).2.1), .v (.int .i64 (z).2.2.1), .sl 2 ((z).2.2.2.map D7)] := by
     have := congrArg (Option.map B2) g3
     rw [← List.getElem?_map, List.map_set] at this
     exact this
    have h1 : ((p ++ a1 ++ u1 ++ z :: y :: (u2 ++ q)).map B2)[p.length + a1.length + u1.length]? = some [.v (.string (D6 (z).1)), .v (.int .i64 (z).2.1), .v (.int .i64 (z).2.2.1), .sl 2 ((z).2.2.2.map D7)] := by rw [List.getElem?_map, g1]; rfl
    have h2 : ((p ++ a1 ++ u1 ++ z :: y :: (u2 ++ q)).map B2)[p.length + a1.length + (u1.length + 1)]? = some [.v (.string (D6 (y).1)), .v (.int .i64 (y).2.1), .v (.int .i64 (y).2.2.1), .sl 2 ((y).2.2.2.map D7)] := by rw [List.getElem?_map, g2]; rfl
    generalize hdm : List.map B2 (p ++ a1 ++ u1 ++ z :: y :: (u2 ++ q)) = dm at *
    simp only [go_sem, P7, d3, em, ia, ib, h1, h2, h3, hnx]
    refine C3 (u1, z :: u2) (by simp) (by simp only; rw [hu]; simp) ?_
    exact (sR [] [])

set_option maxHeartbeats 4000000 in
theorem B6y (io : List Nat) (Q : Exit → St → Prop) (k : List Kt) (env : List (Nat × AV)) (g L : Nat) (r : Bool)  (P M N P1 E1 H Z0 : Nat) (D1 D2 D3 D4 : List F4) (v1 v2 w1 w2 : Bool)
  (e0 : lk 0 env = .own 0 4 0 L r) (e1 : lk 1 env = I P) (e2 : lk 2 env = I M) (e3 : lk 3 env = I N) (e4 : lk 4 env = .fn g [] []) (e18 : lk 18 env = I H) (e19 : lk 19 env = I Z0) (e20 : lk 20 env = I P1)
  (ee : IntKind.i64.wrap ((Z0 : Int) - (P1 : Int)) = (E1 : Int))
  (x1 : decide (P1 < M) = !v2) (x2 : decide (M < E1) = !w1) (x3 : decide (P < P1) = !v1) (x4 : decide (P1 < H) = !w1) (x5 : decide (H < E1) = !v2) (x6 : decide (E1 < N) = !w2)
  (hr : v2 = false → w1 = false → Meets Tryz.prog E0 J7 [.own 0 4 0 L r, I P1, I M, I E1, .fn g [] []] [(0, .row 4 true (D1.map B2))] (.tp []) [(0, .row 4 true (D2.map B2))])
  (i1 : v1 = false → w1 = false → Meets Tryz.prog E0 C0 [.own 0 4 0 L r, I P, I P1, I H, .fn g [] []] [(0, .row 4 true (D2.map B2))] (.tp []) [(0, .row 4 true (D3.map B2))])
  (i2 : v2 = false → w2 = false → Meets Tryz.prog E0 C0 [.own 0 4 0 L r, I H, I E1, I N, .fn g [] []] [(0, .row 4 true (D3.map B2))] (.tp []) [(0, .row 4 true (D4.map B2))])
  (r1 : (v2 || w1) = true → D1 = D2) (r2 : (v1 || w1) = true → D2 = D3) (r3 : (v2 || w2) = true → D3 = D4)
  (hend : ∀ env tl, B Tryz.prog E0 io Q k .normal env ((0, .row 4 true (D4.map B2)) :: tl)) :
  W Tryz.prog E0 io Q F9 k env [(0, .row 4 true (D1.map B2))] := by
 cases v2 <;> cases w1 <;> simp only [Bool.not_true, Bool.not_false] at x1 x2 x4 x5
 case' false.false =>
  simp only [go_sem, F9, e0, e1, e2, e3, e4, e18, e19, e20, ee, x1, x2]
  refine oB (hr rfl rfl) ?_
  simp only [go_sem]
 case' false.true =>
  have := r1 rfl; subst this
  simp only [go_sem, F9, e0, e1, e2, e3, e4, e18, e19, e20, ee, x1, x2]
 case' true.false =>
  have := r1 rfl; subst this
  simp only [go_sem, F9, e0, e1, e2, e3, e4, e18, e19, e20, ee, x1, x2]
 case' true.true =>
  have := r1 rfl; subst this
  simp only [go_sem, F9, e0, e1, e2, e3, e4, e18, e19, e20, ee, x1, x2]
 all_goals
  cases v1 <;> simp only [Bool.not_true, Bool.not_false] at x3
  all_goals
   (try (have r2' := r2 rfl; subst r2'))
   simp only [go_sem, x3, x4]
   try (refine oB (i1 rfl rfl) ?_; simp only [go_sem])
  all_goals
   cases w2 <;> simp only [Bool.not_true, Bool.not_false] at x6
   all_goals
    (try (have r3' := r3 rfl; subst r3'))
    simp only [go_sem, x5, x6]
    try (refine oB (i2 rfl rfl) ?_; simp only [go_sem])
   all_goals exact hend _ _

set_option maxHeartbeats 4000000 in
theorem C0q (g L : Nat) (r : Bool)  (c : F4 → F4 → Int) (D : F4 → Prop) (hc : ∀ x y, D x → D y → Meets Tryz.prog E0 g ([(.ag [Q5 (D6 (x).1), I (x).2.1, I (x).2.2.1, M6 (x).2.2.2]), (.ag [Q5 (D6 (y).1), I (y).2.1, I (y).2.2.1, M6 (y).2.2.2])] ++ []) [] (I (c x y)) []) (hO : Below3 (B0 c))
  (p a b q : List F4) (ha1 : a.length ≠ 1) (ha0 : a ≠ []) (hb1 : b.length ≠ 1) (hb0 : b ≠ []) (ha : ∀ x ∈ a, D x) (hb : ∀ x ∈ b, D x) (sa : Srt (B0 c) a) (sb : Srt (B0 c) b) (hL : L = (p ++ a ++ b ++ q).length) (hLb : L ≤ 281474976710656)
  (ih : ∀ p' a' b' q' : List F4, a'.length + b'.length < a.length + b.length → a' ≠ [] → b' ≠ [] → (∀ x ∈ a', D x) → (∀ x ∈ b', D x) → Srt (B0 c) a' → Srt (B0 c) b' → L = (p' ++ a' ++ b' ++ q').length →
   Meets Tryz.prog E0 C0 [.own 0 4 0 L r, I p'.length, I (p'.length + a'.length : Nat), I (p'.length + a'.length + b'.length : Nat), .fn g [] []] [(0, .row 4 true ((p' ++ a' ++ b' ++ q').map B2))] (.tp []) [(0, .row 4 true ((p' ++ mrg (B0 c) a' b' ++ q').map B2))]) :
  Meets Tryz.prog E0 C0 [.own 0 4 0 L r, I p.length, I (p.length + a.length : Nat), I (p.length + a.length + b.length : Nat), .fn g [] []] [(0, .row 4 true ((p ++ a ++ b ++ q).map B2))] (.tp []) [(0, .row 4 true ((p ++ mrg (B0 c) a b ++ q).map B2))] := by
 have hLs : L = p.length + a.length + b.length + q.length := by rw [hL]; simp only [List.length_append]
 obtain ⟨P, hP⟩ : ∃ P, p.length = P := ⟨_, rfl⟩
 obtain ⟨M, hM⟩ : ∃ M, P + a.length = M := ⟨_, rfl⟩
 obtain ⟨N, hN⟩ : ∃ N, M + b.length = N := ⟨_, rfl⟩
 rw [hP] at hLs ⊢
 rw [hM, hN]
 have ha0' : 0 < a.length := List.length_pos_iff.2 ha0
 have hb0' : 0 < b.length := List.length_pos_iff.2 hb0
 obtain ⟨h, hh⟩ : ∃ h, (a.length + b.length) / 2 = h := ⟨_, rfl⟩
 refine R3 (by simp) (C2 (by simp [B5, AV.ids, A4]) (by simp [Ob.live, Ob.ids, A4, B5, AV.ids])) (C2 (by simp [B5, AV.ids, A4]) (by simp [Ob.live, Ob.ids, A4, B5, AV.ids])) (by simp [A4]) (by simp [A4]) ?_
 have e1 : IntKind.i64.wrap ((M : Int) - (P : Int)) = (a.length : Int) := C6d hM.symm (by omega)
 have d1 : decide ((a.length : Int) = 1) = false := decide_eq_false (by omega)
 have e2 : IntKind.i64.wrap ((N : Int) - (M : Int)) = (b.length : Int) := C6d hN.symm (by omega)
 have d2 : decide ((b.length : Int) = 1) = false := decide_eq_false (by omega)
 obtain ⟨q1, q2, q3⟩ := A45 (x := P) (y := N) (by omega)
 have q4 : (P + N) / 2 = P + h := by omega
 rw [q4] at q3
 have e3 : IntKind.i64.wrap (((P + h : Nat) : Int) + (M : Int)) = ((P + h + M : Nat) : Int) := C6x rfl (by omega)
 obtain ⟨Z, hZ⟩ : ∃ Z, P + h + M = Z + 1 := ⟨P + h + M - 1, by omega⟩
 have e4 : IntKind.i64.wrap (((P + h + M : Nat) : Int) - 1) = (Z : Int) := E11 hZ (by omega)
 obtain ⟨lo, hi, hlohi, hl1, hl2, hl3, hl4, hl5, hcase⟩ : ∃ lo hi : Nat, lo ≤ hi ∧ hi ≤ a.length ∧ hi ≤ h ∧ h ≤ lo + b.length ∧ Hid (lo = 0 ∨ h = lo + b.length) ∧ Hid (hi = a.length ∨ hi = h) ∧
   ((decide (P + h < M) = true ∧ IntKind.i64.wrap (((P + h + M : Nat) : Int) - (N : Int)) = ((P + lo : Nat) : Int) ∧ P + h = P + hi) ∨ (decide (P + h < M) = false ∧ P = P + lo ∧ M = P + hi)) := by
  by_cases hc : h < a.length
  ·refine ⟨h - b.length, h, by omega, by omega, by omega, by omega, .inr (by omega), .inr rfl, .inl ⟨decide_eq_true (by omega), ?_, rfl⟩⟩
   exact C6d (by omega) (by omega)
  ·exact ⟨0, a.length, by omega, by omega, by omega, by omega, .inl rfl, .inl rfl, .inr ⟨decide_eq_false (by omega), by omega, by omega⟩⟩
 have hML : M ≤ L := by clear d1 d2 e1 e2 q1 q2 q3 q4 e3 e4 hcase ha1 hb1; omega
 have hNL : N ≤ L := by clear d1 d2 e1 e2 q1 q2 q3 q4 e3 e4 hcase ha1 hb1; omega
 have hhn : h < a.length + b.length := by clear d1 d2 e1 e2 q1 q2 q3 q4 e3 e4 hcase ha1 hb1; omega
 have hh0 : 0 < h := by clear d1 d2 e1 e2 q1 q2 q3 q4 e3 e4 hcase; omega
 have hZb : Z + 1 ≤ 9007199254740992 := by clear d1 d2 e1 e2 q1 q2 q3 q4 e3 e4 hcase ha1 hb1; omega
 clear ha1 hb1 ha0' hb0' hLs
 rcases hcase with ⟨c1, c2, c3⟩ | ⟨c1, c2, c3⟩
 case' inl =>
  simp only [go_sem, I7, L1, P5, e1, d1, e2, d2, q1, q2, q3, e3, e4, c1, c2]
 case' inr =>
  simp only [go_sem, I7, L1, P5, e1, d1, e2, d2, q1, q2, q3, e3, e4, c1]
 all_goals
  refine C8 (fun s : Nat × Nat => s.2 - s.1) (fun s => lo ≤ s.1 ∧ s.1 ≤ s.2 ∧ s.2 ≤ hi ∧ Hid (s.1 = lo ∨ ∃ y z, a[s.1 - 1]? = some z ∧ b[h - s.1]? = some y ∧ B0 c y z = false) ∧ Hid (s.2 = hi ∨ ∃ y z, a[s.2]? = some z ∧ b[h - 1 - s.2]? = some y ∧ B0 c y z = true))
   (fun s => [(0, .own 0 4 0 L r), (1, I P), (2, I M), (3, I N), (4, .fn g [] []), (18, I (P + h : Nat)), (19, I (P + h + M : Nat)), (20, I (P + s.1 : Nat)), (21, I (P + s.2 : Nat)), (22, I Z)])
   (fun s => [(0, .row 4 true ((p ++ a ++ b ++ q).map B2))]) (lo, hi) ⟨Nat.le_refl _, hlohi, Nat.le_refl _, .inl rfl, .inl rfl⟩ ?_ ?_
 case inl.refine_1 =>
  simp only [← c3]
  exact (sR [] [])
 case inr.refine_1 =>
  simp only [← c2, ← c3]
  exact (sR [] [])
 all_goals
  clear c1 c2 c3
  rintro ⟨s, t⟩ ⟨hs0, hst, ht0, hs, ht⟩
  simp only at hs0 hst ht0 hs ht ⊢
  by_cases hlt : s < t
  ·have d3 : decide (P + s < P + t) = true := decide_eq_true (Nat.add_lt_add_left hlt P)
   obtain ⟨h1, h2, h3⟩ := A45 (x := P + s) (y := P + t) (sy5 hlt (Nat.le_trans ht0 hl1) hM (Nat.le_trans hML hLb))
   rw [sy2] at h3
   obtain ⟨hk1, hk2⟩ := sy3 hlt
   generalize (s + t) / 2 = k at *
   have hka : k < a.length := Nat.lt_of_lt_of_le hk2 (Nat.le_trans ht0 hl1)
   have hkh : k < h := Nat.lt_of_lt_of_le hk2 (Nat.le_trans ht0 hl2)
   have hlk : lo ≤ k := Nat.le_trans hs0 hk1
   have hkb := sy1 hlk hkh hl3
   obtain ⟨z, hz, hzm⟩ := A6r hka
   obtain ⟨y, hy, hym⟩ := A6r hkb
   have hcc := hc y z (hb y hym) (ha z hzm)
   have g1 : ((p ++ a ++ b ++ q).map B2)[M + (h - 1 - k)]? = some [.v (.string (D6 (y).1)), .v (.int .i64 (y).2.1), .v (.int .i64 (y).2.2.1), .sl 2 ((y).2.2.2.map D7)] := by rw [List.getElem?_map, C7l (p := p) (a := a) (b := b) (q := q) (n := M + (h - 1 - k)) hy (by rw [hP, hM])]; rfl
   have g2 : ((p ++ a ++ b ++ q).map B2)[P + k]? = some [.v (.string (D6 (z).1)), .v (.int .i64 (z).2.1), .v (.int .i64 (z).2.2.1), .sl 2 ((z).2.2.2.map D7)] := by rw [List.getElem?_map, C7k (p := p) (a := a) (b := b) (q := q) (n := P + k) hz (by rw [hP])]; rfl
   have ea : IntKind.i64.wrap ((Z : Int) - ((P + k : Nat) : Int)) = ((M + (h - 1 - k) : Nat) : Int) := C6d (sy4 hZ hkh) (Nat.le_of_succ_le hZb)
   have ia : ((M + (h - 1 - k) : Nat) : Int) < (L : Int) := sy6 hkb hN hNL
   have ib : ((P + k : Nat) : Int) < (L : Int) := sy6 hka hM hML
   have ek : IntKind.i64.wrap (((P + k : Nat) : Int) + 1) = ((P + (k + 1) : Nat) : Int) := E0y rfl (by clear hZ hZb hN hNL hh hhn hl1 hl2 hl3 hlk hkb hk1 hk2 hs0 hst ht0 hlt; omega)
   generalize hdm : (p ++ a ++ b ++ q).map B2 = dm at *
   cases hl2 : decide (c y z < 0)
   ·have hnew : Hid (k + 1 = lo ∨ ∃ y z, a[k + 1 - 1]? = some z ∧ b[h - (k + 1)]? = some y ∧ B0 c y z = false) :=
     .inr ⟨y, z, hz, by rw [sy7 hkh]; exact hy, hl2⟩
    simp only [go_sem, K6, d3, h1, h2, h3, ea, ia, ib, g1, g2]
    refine A6 (hcc) ?_
    simp only [go_sem, hl2, ek]
    exact C3 (k + 1, t) (Nat.sub_lt_sub_left hlt (Nat.lt_succ_of_le hk1)) ⟨Nat.le_succ_of_le hlk, hk2, ht0, hnew, ht⟩ (sR [] [])
   ·have hnew : Hid (k = hi ∨ ∃ y z, a[k]? = some z ∧ b[h - 1 - k]? = some y ∧ B0 c y z = true) := .inr ⟨y, z, hz, hy, hl2⟩
    simp only [go_sem, K6, d3, h1, h2, h3, ea, ia, ib, g1, g2]
    refine A6 (hcc) ?_
    simp only [go_sem, hl2]
    exact C3 (s, k) (Nat.sub_lt_sub_right hk1 hk2) ⟨hs0, hk1, Nat.le_trans (Nat.le_of_lt hk2) ht0, hs, hnew⟩ (sR [] [])
  ·obtain rfl : s = t := Nat.le_antisymm hst (Nat.not_lt.1 hlt)
   have d3 : decide (P + s < P + s) = false := decide_eq_false (Nat.lt_irrefl _)
   have hsh : s ≤ h := Nat.le_trans ht0 hl2
   obtain ⟨a1, a2, rfl, rfl⟩ := A1c (Nat.le_trans ht0 hl1)
   obtain ⟨b1, b2, rfl, hu⟩ := A1c (sy8 hs0 hl3)
   have hal : (a1 ++ a2).length = a1.length + a2.length := List.length_append
   have hbl : (b1 ++ b2).length = b1.length + b2.length := List.length_append
   have hab : a1.length + b1.length = h := by rw [hu]; exact Nat.add_sub_cancel' hsh
   have hmrg : mrg (B0 c) (a1 ++ a2) (b1 ++ b2) = mrg (B0 c) a1 b1 ++ mrg (B0 c) a2 b2 := D4f hO sa sb (m := h) hab (hl4.imp id fun e => e.trans (by rw [hbl])) (hl5.imp (fun e => e.trans hal) id) hs ht
   rw [hmrg]
   have ee : IntKind.i64.wrap (((P + h + M : Nat) : Int) - ((P + a1.length : Nat) : Int)) = ((M + b1.length : Nat) : Int) := C6d (sy9 hu hsh) (by rw [hZ]; exact hZb)
   rw [hal] at hM hhn
   rw [hbl] at hN hhn
   have l1 : (mrg (B0 c) a1 b1).length = h := (C0o _ _ _).trans hab
   have sa' := List.pairwise_append.1 sa
   have sb' := List.pairwise_append.1 sb
   clear hs ht hmrg hl4 hl5 e1 d1 e2 d2 q1 q2 q3 q4 hlohi hlt hst hs0 ht0 hl1 hl2 hl3 hZ hZb e3 e4 hh sa sb hsh hu
   have y1 : M = P + a1.length + a2.length := by rw [← hM, Nat.add_assoc]
   have y2 : P + h = P + a1.length + b1.length := by rw [← hab, Nat.add_assoc]
   have y3 : M + b1.length = P + h + a2.length := by clear hNL hLb hN hhn; omega
   have y4 : N = M + b1.length + b2.length := by rw [← hN, Nat.add_assoc]
   have x1 : decide (P + a1.length < M) = !a2.isEmpty := (dlt y1).trans A43
   have x2 : decide (M < M + b1.length) = !b1.isEmpty := (dlt rfl).trans A43
   have x3 : decide (P < P + a1.length) = !a1.isEmpty := (dlt rfl).trans A43
   have x4 : decide (P + a1.length < P + h) = !b1.isEmpty := (dlt y2).trans A43
   have x5 : decide (P + h < M + b1.length) = !a2.isEmpty := (dlt y3).trans A43
   have x6 : decide (M + b1.length < N) = !b2.isEmpty := (dlt y4).trans A43
   have hr : a2 ≠ [] → b1 ≠ [] → Meets Tryz.prog E0 J7 [.own 0 4 0 L r, I (P + a1.length : Nat), I M, I (M + b1.length : Nat), .fn g [] []] [(0, .row 4 true ((p ++ (a1 ++ a2) ++ (b1 ++ b2) ++ q).map B2))] (.tp []) [(0, .row 4 true ((p ++ a1 ++ b1 ++ (a2 ++ b2 ++ q)).map B2))] := by
    intro n1 n2
    have := B6r g L r  (p ++ a1) a2 b1 (b2 ++ q) n1 n2 (by rw [hL]; simp) hLb
    rw [show (p ++ a1).length = P + a1.length by simp [hP], ← y1] at this
    rw [show p ++ (a1 ++ a2) ++ (b1 ++ b2) ++ q = p ++ a1 ++ a2 ++ b1 ++ (b2 ++ q) by simp, show p ++ a1 ++ b1 ++ (a2 ++ b2 ++ q) = p ++ a1 ++ b1 ++ a2 ++ (b2 ++ q) by simp]
    exact this
   have i1 : a1 ≠ [] → b1 ≠ [] → Meets Tryz.prog E0 C0 [.own 0 4 0 L r, I P, I (P + a1.length : Nat), I (P + h : Nat), .fn g [] []] [(0, .row 4 true ((p ++ a1 ++ b1 ++ (a2 ++ b2 ++ q)).map B2))] (.tp []) [(0, .row 4 true ((p ++ mrg (B0 c) a1 b1 ++ (a2 ++ b2 ++ q)).map B2))] := by
    intro n1 n2
    have := ih p a1 b1 (a2 ++ b2 ++ q) (by rw [hab, hal, hbl]; exact hhn) n1 n2 (fun x hx => ha x (by simp [hx])) (fun x hx => hb x (by simp [hx])) sa'.1 sb'.1 (hL.trans (D0t ..))
    rw [hP, ← y2] at this
    exact this
   have i2 : a2 ≠ [] → b2 ≠ [] → Meets Tryz.prog E0 C0 [.own 0 4 0 L r, I (P + h : Nat), I (M + b1.length : Nat), I N, .fn g [] []] [(0, .row 4 true ((p ++ mrg (B0 c) a1 b1 ++ (a2 ++ b2 ++ q)).map B2))] (.tp []) [(0, .row 4 true ((p ++ (mrg (B0 c) a1 b1 ++ mrg (B0 c) a2 b2) ++ q).map B2))] := by
    intro n1 n2
    have n3 := List.length_pos_iff.2 n1
    have n4 := List.length_pos_iff.2 n2
    have := ih (p ++ mrg (B0 c) a1 b1) a2 b2 q (by rw [hal, hbl]; clear hNL hLb hN hM y1 y2 y3 y4 hhn; omega) n1 n2 (fun x hx => ha x (by simp [hx])) (fun x hx => hb x (by simp [hx])) sa'.2.1 sb'.2.1 (hL.trans (C8b (B0 c) ..))
    rw [show (p ++ mrg (B0 c) a1 b1).length = P + h by rw [List.length_append, hP, l1], ← y3, ← y4] at this
    rw [show p ++ mrg (B0 c) a1 b1 ++ (a2 ++ b2 ++ q) = p ++ mrg (B0 c) a1 b1 ++ a2 ++ b2 ++ q by simp, show p ++ (mrg (B0 c) a1 b1 ++ mrg (B0 c) a2 b2) ++ q = p ++ mrg (B0 c) a1 b1 ++ mrg (B0 c) a2 b2 ++ q by simp]
    exact this
   have r1 : a2 = [] ∨ b1 = [] → p ++ (a1 ++ a2) ++ (b1 ++ b2) ++ q = p ++ a1 ++ b1 ++ (a2 ++ b2 ++ q) := by rintro (e | e) <;> simp [e]
   have r2 : a1 = [] ∨ b1 = [] → p ++ a1 ++ b1 ++ (a2 ++ b2 ++ q) = p ++ mrg (B0 c) a1 b1 ++ (a2 ++ b2 ++ q) := fun e => by rw [B9s _ e]; simp
   have r3 : a2 = [] ∨ b2 = [] → p ++ mrg (B0 c) a1 b1 ++ (a2 ++ b2 ++ q) = p ++ (mrg (B0 c) a1 b1 ++ mrg (B0 c) a2 b2) ++ q := fun e => by rw [B9s (a := a2) _ e]; simp
   have E : ∀ {l : List F4}, l.isEmpty = true → l = [] := List.isEmpty_iff.1
   have NE : ∀ {l : List F4}, l.isEmpty = false → l ≠ [] := fun h e => by rw [e] at h; cases h
   clear ih sa' sb' hL hLb ha hb hc
   simp only [go_sem, K6, d3]
   refine B6y _ _ _ _ g L r  P M N (P + a1.length) (M + b1.length) (P + h) (P + h + M) (p ++ (a1 ++ a2) ++ (b1 ++ b2) ++ q) _ _ _ a1.isEmpty a2.isEmpty b1.isEmpty b2.isEmpty rfl rfl rfl rfl rfl rfl rfl rfl ee x1 x2 x3 x4 x5 x6
    (fun h1 h2 => hr (NE h1) (NE h2)) (fun h1 h2 => i1 (NE h1) (NE h2)) (fun h1 h2 => i2 (NE h1) (NE h2)) (fun h => r1 ((Bool.or_eq_true_iff.1 h).imp E E)) (fun h => r2 ((Bool.or_eq_true_iff.1 h).imp E E)) (fun h => r3 ((Bool.or_eq_true_iff.1 h).imp E E)) (fun env tl => ?_)
   simp only [go_sem]
   refine wO [] [] ?_
   simp only [go_sem, N0, exists_eq_left', Option.some.injEq]
   simp [G1, G2, B1, AV.asOwn, B3, A9, AV.isNil, J8, B6, B4, B8, ren]

theorem B21 (g L : Nat) (r : Bool)  (c : F4 → F4 → Int) (D : F4 → Prop) (hc : ∀ x y, D x → D y → Meets Tryz.prog E0 g ([(.ag [Q5 (D6 (x).1), I (x).2.1, I (x).2.2.1, M6 (x).2.2.2]), (.ag [Q5 (D6 (y).1), I (y).2.1, I (y).2.2.1, M6 (y).2.2.2])] ++ []) [] (I (c x y)) []) (hO : Below3 (B0 c)) (hLb : L ≤ 281474976710656) (n : Nat) :
  ∀ (p a b q : List F4), a.length + b.length = n → a ≠ [] → b ≠ [] → (∀ x ∈ a, D x) → (∀ x ∈ b, D x) → Srt (B0 c) a → Srt (B0 c) b → L = (p ++ a ++ b ++ q).length →
  Meets Tryz.prog E0 C0 [.own 0 4 0 L r, I p.length, I (p.length + a.length : Nat), I (p.length + a.length + b.length : Nat), .fn g [] []] [(0, .row 4 true ((p ++ a ++ b ++ q).map B2))] (.tp []) [(0, .row 4 true ((p ++ mrg (B0 c) a b ++ q).map B2))] := by
 induction n using Nat.strongRecOn with
 | _ n ih =>
  intro p a b q hn ha0 hb0 ha hb sa sb hL
  by_cases h1 : a.length = 1
  ·obtain ⟨x, rfl⟩ := List.length_eq_one_iff.1 h1
   exact C04 g L r  c D hc hO p b q x (ha x (by simp)) hb sb hL hLb
  ·by_cases h2 : b.length = 1
   ·obtain ⟨y, rfl⟩ := List.length_eq_one_iff.1 h2
    exact C05 g L r  c D hc hO p a q y h1 ha0 (hb y (by simp)) ha sa hL hLb
   ·exact C0q g L r  c D hc hO p a b q h1 ha0 h2 hb0 ha hb sa sb hL hLb fun p' a' b' q' hlt => ih _ (by omega) p' a' b' q' rfl

theorem B4e {lt : F4 → F4 → Bool} (hO : Below3 lt) {s : Nat} {l : List F4} (h0 : 0 < s) (h : 2 * s ≤ l.length) : chk lt s l = F7 lt (l.take s) ++ F7 lt ((l.drop s).take s) ++ chk lt s (l.drop (2 * s)) ∧ mrg lt (F7 lt (l.take s)) (F7 lt ((l.drop s).take s)) = F7 lt (l.take (2 * s)) ∧ chk lt (2 * s) l = F7 lt (l.take (2 * s)) ++ chk lt (2 * s) (l.drop (2 * s)) := by
 refine ⟨?_, ?_, B18 lt (by omega) h⟩
 ·rw [B18 lt h0 (by omega), B18 lt h0 (l := l.drop s) (by rw [List.length_drop]; omega), List.drop_drop, show s + s = 2 * s by omega, List.append_assoc]
 ·rw [B9m hO, show l.take (2 * s) = l.take s ++ (l.drop s).take s by rw [show 2 * s = s + s by omega, List.take_add]]

theorem B6x {lt : F4 → F4 → Bool} (hO : Below3 lt) {s : Nat} {l : List F4} (h0 : 0 < s) (h1 : s < l.length) (h : l.length < 2 * s) : chk lt s l = F7 lt (l.take s) ++ F7 lt (l.drop s) ∧ mrg lt (F7 lt (l.take s)) (F7 lt (l.drop s)) = F7 lt l ∧ chk lt (2 * s) l = F7 lt l := by
 refine ⟨?_, ?_, A53 lt (by omega)⟩
 ·rw [B18 lt h0 (by omega), A53 lt (l := l.drop s) (by rw [List.length_drop]; omega)]
 ·rw [B9m hO, List.take_append_drop]

set_option maxHeartbeats 2000000 in
theorem B6z (g L : Nat) (r : Bool)  (c : F4 → F4 → Int) (D : F4 → Prop) (hc : ∀ x y, D x → D y → Meets Tryz.prog E0 g ([(.ag [Q5 (D6 (x).1), I (x).2.1, I (x).2.2.1, M6 (x).2.2.2]), (.ag [Q5 (D6 (y).1), I (y).2.1, I (y).2.2.1, M6 (y).2.2.2])] ++ []) [] (I (c x y)) []) (hO : Below3 (B0 c)) (hLb : L ≤ 281474976710656)
  (l : List F4) (hL : L = l.length) (hD : ∀ x ∈ l, D x) :
  Meets Tryz.prog E0 N9 [.own 0 4 0 L r, I L, .fn g [] []] [(0, .row 4 true (l.map B2))] (.tp []) [(0, .row 4 true ((F7 (B0 c) l).map B2))] := by
 refine A0d (by simp) (C2 (by simp [B5, AV.ids, A4]) (by simp [Ob.live, Ob.ids, A4, B5, AV.ids])) (C2 (by simp [B5, AV.ids, A4]) (by simp [Ob.live, Ob.ids, A4, B5, AV.ids])) (by simp [A4]) (by simp [A4]) ?_
 simp only [go_sem, S1]
 refine C8 (fun s : List F4 × List F4 => s.2.length) (fun s => s.1.length + s.2.length = L ∧ (∀ x ∈ s.2, x ∈ l) ∧ s.1 ++ chk (B0 c) 20 s.2 = chk (B0 c) 20 l)
  (fun s => [(0, .own 0 4 0 L r), (1, I L), (2, .fn g [] []), (6, I 20), (7, I s.1.length), (8, I (s.1.length + 20 : Nat))])
  (fun s => [(0, .row 4 true ((s.1 ++ s.2).map B2))]) ([], l) ⟨by simp [hL], fun x h => h, rfl⟩ (sR [] []) ?_
 rintro ⟨dn, rs⟩ ⟨hs1, hs2, hs3⟩
 simp only at hs1 hs2 hs3 ⊢
 by_cases hlt : dn.length + 20 ≤ L
 ·have d1 : decide (dn.length + 20 ≤ L) = true := decide_eq_true hlt
  have hk : (rs.take 20).length = 20 := by rw [List.length_take]; omega
  have h := A4x g L r  c D hc dn (rs.take 20) (rs.drop 20) (fun x hx => hD x (hs2 x (List.mem_of_mem_take hx))) (by rw [List.append_assoc, List.take_append_drop, List.length_append, hs1]) hLb
  rw [hk, List.append_assoc, List.take_append_drop] at h
  rw [B18 _ (by decide) (by omega), ← List.append_assoc] at hs3
  have ei : IntKind.i64.wrap (((dn.length + 20 : Nat) : Int) + 20) = ((dn.length + 20 + 20 : Nat) : Int) := C6x (y := 20) rfl (by omega)
  simp only [go_sem, d1]
  refine oB (h) ?_
  simp only [go_sem, ei]
  refine C3 (dn ++ F7 (B0 c) (rs.take 20), rs.drop 20) (by simp only [List.length_drop]; omega) ⟨by simp only [List.length_append, O6, hk, List.length_drop]; omega, fun x hx => hs2 x (List.mem_of_mem_drop hx), hs3⟩ ?_
  have hl1 : (dn ++ F7 (B0 c) (rs.take 20)).length = dn.length + 20 := by rw [List.length_append, O6, hk]
  simp only [hl1]
  exact (sR [] [])
 ·have d1 : decide (dn.length + 20 ≤ L) = false := decide_eq_false hlt
  have h := A4x g L r  c D hc dn rs [] (fun x hx => hD x (hs2 x hx)) (by rw [List.append_nil, List.length_append, hs1]) hLb
  rw [hs1, List.append_nil, List.append_nil, ← A53 (B0 c) (show rs.length ≤ 20 by omega), hs3] at h
  clear hs3
  simp only [go_sem, d1]
  refine oB (h) ?_
  simp only [go_sem]
  refine C8 (fun s : Nat => L - s) (fun s => 0 < s ∧ s ≤ 2 * L + 20)
   (fun s => [(0, .own 0 4 0 L r), (1, I L), (2, .fn g [] []), (6, I s)])
   (fun s => [(0, .row 4 true ((chk (B0 c) s l).map B2))]) 20 ⟨by decide, by omega⟩ (sR [] []) ?_
  clear h d1 hlt hs1 hs2
  clear dn rs
  rintro s ⟨hs0, hs1⟩
  by_cases hsl : s < L
  ·have d1 : decide (s < L) = true := decide_eq_true hsl
   have e2 : IntKind.i64.wrap ((2 : Int) * (s : Int)) = ((2 * s : Nat) : Int) := by rw [A5 (by omega) (by omega)]; omega
   have e2' : IntKind.i64.wrap ((s : Int) * (2 : Int)) = ((2 * s : Nat) : Int) := by rw [A5 (by omega) (by omega)]; omega
   simp only [go_sem, d1, e2]
   refine C8 (fun s : List F4 × List F4 => s.2.length) (fun t => t.1.length + t.2.length = L ∧ (∀ x ∈ t.2, x ∈ l) ∧ t.1 ++ chk (B0 c) (2 * s) t.2 = chk (B0 c) (2 * s) l)
    (fun t => [(0, .own 0 4 0 L r), (1, I L), (2, .fn g [] []), (6, I s), (7, I t.1.length), (8, I (t.1.length + 2 * s : Nat))])
    (fun t => [(0, .row 4 true ((t.1 ++ chk (B0 c) s t.2).map B2))]) ([], l) ⟨by simp [hL], fun x h => h, rfl⟩ ?_ ?_
   ·simp only [List.length_nil, List.nil_append, Nat.zero_add]
    exact (sR [] [])
   rintro ⟨dn, rs⟩ ⟨hs1, hs2, hs3⟩
   simp only at hs1 hs2 hs3 ⊢
   by_cases hlt : dn.length + 2 * s ≤ L
   ·have d2 : decide (dn.length + 2 * s ≤ L) = true := decide_eq_true hlt
    obtain ⟨k1, k2, k3⟩ := B4e hO hs0 (l := rs) (by omega)
    have l1 : (F7 (B0 c) (rs.take s)).length = s := by rw [O6, List.length_take]; omega
    have l2 : (F7 (B0 c) ((rs.drop s).take s)).length = s := by rw [O6, List.length_take, List.length_drop]; omega
    have l3 : (F7 (B0 c) (rs.take (2 * s))).length = 2 * s := by rw [O6, List.length_take]; omega
    have n1 : F7 (B0 c) (rs.take s) ≠ [] := fun e => by rw [e, List.length_nil] at l1; omega
    have n2 : F7 (B0 c) ((rs.drop s).take s) ≠ [] := fun e => by rw [e, List.length_nil] at l2; omega
    have h := B21 g L r  c D hc hO hLb _ dn (F7 (B0 c) (rs.take s)) (F7 (B0 c) ((rs.drop s).take s)) (chk (B0 c) s (rs.drop (2 * s))) rfl n1 n2
     (fun x hx => hD x (hs2 x (List.mem_of_mem_take ((Y1 _ _ _).1 hx)))) (fun x hx => hD x (hs2 x (List.mem_of_mem_drop (List.mem_of_mem_take ((Y1 _ _ _).1 hx))))) (A3v hO _) (A3v hO _)
     (by simp only [List.length_append, l1, l2, C8p, List.length_drop]; omega)
    rw [l1, l2, k2, show dn ++ F7 (B0 c) (rs.take s) ++ F7 (B0 c) ((rs.drop s).take s) ++ chk (B0 c) s (rs.drop (2 * s)) = dn ++ chk (B0 c) s rs by rw [k1]; simp only [List.append_assoc], show dn.length + s + s = dn.length + 2 * s by omega] at h
    rw [k3, ← List.append_assoc] at hs3
    have e3 : IntKind.i64.wrap ((dn.length : Int) + (s : Int)) = ((dn.length + s : Nat) : Int) := C6x rfl (by omega)
    have e4 : IntKind.i64.wrap (((dn.length + 2 * s : Nat) : Int) + ((2 * s : Nat) : Int)) = ((dn.length + 2 * s + 2 * s : Nat) : Int) := C6x rfl (by omega)
    simp only [go_sem, d2, e3]
    refine oB (h) ?_
    simp only [go_sem, e2, e4]
    refine C3 (dn ++ F7 (B0 c) (rs.take (2 * s)), rs.drop (2 * s)) (by simp only [List.length_drop]; omega) ⟨by simp only [List.length_append, l3, List.length_drop]; omega, fun x hx => hs2 x (List.mem_of_mem_drop hx), hs3⟩ ?_
    have hl1 : (dn ++ F7 (B0 c) (rs.take (2 * s))).length = dn.length + 2 * s := by rw [List.length_append, l3]
    simp only [hl1]
    exact (sR [] [])
   ·have d2 : decide (dn.length + 2 * s ≤ L) = false := decide_eq_false hlt
    have e3 : IntKind.i64.wrap ((dn.length : Int) + (s : Int)) = ((dn.length + s : Nat) : Int) := C6x rfl (by omega)
    by_cases hl3 : dn.length + s < L
    ·have d3 : decide (dn.length + s < L) = true := decide_eq_true hl3
     obtain ⟨k1, k2, k3⟩ := B6x hO hs0 (l := rs) (by omega) (by omega)
     have l1 : (F7 (B0 c) (rs.take s)).length = s := by rw [O6, List.length_take]; omega
     have l2 : (F7 (B0 c) (rs.drop s)).length = rs.length - s := by rw [O6, List.length_drop]
     have n1 : F7 (B0 c) (rs.take s) ≠ [] := fun e => by rw [e, List.length_nil] at l1; omega
     have n2 : F7 (B0 c) (rs.drop s) ≠ [] := fun e => by rw [e, List.length_nil] at l2; omega
     have h := B21 g L r  c D hc hO hLb _ dn (F7 (B0 c) (rs.take s)) (F7 (B0 c) (rs.drop s)) [] rfl n1 n2
      (fun x hx => hD x (hs2 x (List.mem_of_mem_take ((Y1 _ _ _).1 hx)))) (fun x hx => hD x (hs2 x (List.mem_of_mem_drop ((Y1 _ _ _).1 hx)))) (A3v hO _) (A3v hO _)
      (by simp only [List.length_append, l1, l2, List.length_nil]; omega)
     rw [k3] at hs3
     rw [l1, l2, k2, List.append_nil, List.append_nil, hs3, show dn ++ F7 (B0 c) (rs.take s) ++ F7 (B0 c) (rs.drop s) = dn ++ chk (B0 c) s rs by rw [k1]; simp only [List.append_assoc], show dn.length + s + (rs.length - s) = L by omega] at h
     simp only [go_sem, d2, e3, d3]
     refine oB (h) ?_
     simp only [go_sem, e2']
     exact C3 (2 * s) (by first | omega | (simp only; omega)) ⟨by omega, by omega⟩ (sR [] [])
    ·have d3 : decide (dn.length + s < L) = false := decide_eq_false hl3
     rw [A53 _ (by omega)] at hs3
     rw [A53 (B0 c) (s := s) (l := rs) (by omega), hs3]
     simp only [go_sem, d2, e3, d3, e2']
     exact C3 (2 * s) (by first | omega | (simp only; omega)) ⟨by omega, by omega⟩ (sR [] [])
  ·have d1 : decide (s < L) = false := decide_eq_false hsl
   rw [A53 (B0 c) (s := s) (by omega)]
   simp only [go_sem, d1]
   refine wO [] [] ?_
   simp only [go_sem, S4, exists_eq_left', Option.some.injEq]
   simp [G1, G2, B1, AV.asOwn, B3, A9, AV.isNil, J8, B6, B4, B8, ren]

theorem B2n (g L : Nat) (r : Bool)  (c : F4 → F4 → Int) (D : F4 → Prop) (hc : ∀ x y, D x → D y → Meets Tryz.prog E0 g ([(.ag [Q5 (D6 (x).1), I (x).2.1, I (x).2.2.1, M6 (x).2.2.2]), (.ag [Q5 (D6 (y).1), I (y).2.1, I (y).2.2.1, M6 (y).2.2.2])] ++ []) [] (I (c x y)) []) (hO : Below3 (B0 c)) (hLb : L ≤ 281474976710656)
  (l : List F4) (hL : L = l.length) (hD : ∀ x ∈ l, D x) :
  Meets Tryz.prog E0 H0 [.own 0 4 0 L r, .fn g [] []] [(0, .row 4 true (l.map B2))] (.tp []) [(0, .row 4 true ((F7 (B0 c) l).map B2))] := by
 refine R1 (by simp) (C2 (by simp [B5, AV.ids, A4]) (by simp [Ob.live, Ob.ids, A4, B5, AV.ids])) (C2 (by simp [B5, AV.ids, A4]) (by simp [Ob.live, Ob.ids, A4, B5, AV.ids])) (by simp [A4]) (by simp [A4]) ?_
 have h := B6z g L r  c D hc hO hLb l hL hD
 simp only [go_sem, L4]
 refine oB (h) ?_
 simp only [go_sem]
 refine wO [] [] ?_
 simp only [go_sem, L5, exists_eq_left', Option.some.injEq]
 simp [G1, G2, B1, AV.asOwn, B3, A9, AV.isNil, J8, B6, B4, B8, ren]

theorem B29 (g : Nat)  : Meets Tryz.prog E0 G8 [.t (.sl 4 []), I 0, I 0, .fn g [] []] [] (.tp []) [] := by
 refine U7 (by simp) (C2 (by simp [B5, AV.ids, A4]) (by simp [Ob.live, Ob.ids, A4, B5, AV.ids])) (C2 (by simp [B5, AV.ids, A4]) (by simp [Ob.live, Ob.ids, A4, B5, AV.ids])) (by simp [A4]) (by simp [A4]) ?_
 have e1 : IntKind.i64.wrap (0 + 1) = 1 := by decide
 have d1 : decide ((1 : Int) < 0) = false := rfl
 simp only [go_sem, O5, e1]
 refine C8 (fun _ : Unit => 0) (fun _ => True) (fun _ => [(0, .t (.sl 4 [])), (1, I 0), (2, I 0), (3, .fn g [] []), (8, I 1)]) (fun _ => []) () trivial (sR [] []) ?_
 intro _ _
 simp only [go_sem, d1]
 refine wO [] [] ?_
 simp only [go_sem, O4, exists_eq_left', Option.some.injEq]
 simp [G1, G2, B1, AV.asOwn, B3, A9, AV.isNil, J8, B6, B4, B8, ren]

theorem B4u (g : Nat)  : Meets Tryz.prog E0 N9 [.t (.sl 4 []), I 0, .fn g [] []] [] (.tp []) [] := by
 refine A0d (by simp) (C2 (by simp [B5, AV.ids, A4]) (by simp [Ob.live, Ob.ids, A4, B5, AV.ids])) (C2 (by simp [B5, AV.ids, A4]) (by simp [Ob.live, Ob.ids, A4, B5, AV.ids])) (by simp [A4]) (by simp [A4]) ?_
 have h := B29 g 
 have d1 : decide ((20 : Int) ≤ 0) = false := rfl
 have d2 : decide ((20 : Int) < 0) = false := rfl
 simp only [go_sem, S1]
 refine C8 (fun _ : Unit => 0) (fun _ => True) (fun _ => [(0, .t (.sl 4 [])), (1, I 0), (2, .fn g [] []), (6, I 20), (7, I 0), (8, I 20)]) (fun _ => []) () trivial (sR [] []) ?_
 intro _ _
 simp only [go_sem, d1]
 refine oB (h) ?_
 simp only [go_sem]
 refine C8 (fun _ : Unit => 0) (fun _ => True) (fun _ => [(0, .t (.sl 4 [])), (1, I 0), (2, .fn g [] []), (6, I 20)]) (fun _ => []) () trivial (sR [] []) ?_
 intro _ _
 simp only [go_sem, d2]
 refine wO [] [] ?_
 simp only [go_sem, S4, exists_eq_left', Option.some.injEq]
 simp [G1, G2, B1, AV.asOwn, B3, A9, AV.isNil, J8, B6, B4, B8, ren]

theorem B1a (g : Nat)  : Meets Tryz.prog E0 H0 [.t (.sl 4 []), .fn g [] []] [] (.tp []) [] := by
 refine R1 (by simp) (C2 (by simp [B5, AV.ids, A4]) (by simp [Ob.live, Ob.ids, A4, B5, AV.ids])) (C2 (by simp [B5, AV.ids, A4]) (by simp [Ob.live, Ob.ids, A4, B5, AV.ids])) (by simp [A4]) (by simp [A4]) ?_
 have h := B4u g 
 simp only [go_sem, L4]
 refine oB (h) ?_
 simp only [go_sem]
 refine wO [] [] ?_
 simp only [go_sem, L5, exists_eq_left', Option.some.injEq]
 simp [G1, G2, B1, AV.asOwn, B3, A9, AV.isNil, J8, B6, B4, B8, ren]

theorem D37 (c : Option Addr) (n : Nat) : Meets Tryz.prog E0 C7 [.t (.v (.slice c 0 n))] [] (.t (.sl 4 [])) [] := by
 refine X6 X8 ?_
 cases c with
 | none =>
  simp only [go_sem, L7, Option.isNone_none]
  refine wS [] ?_
  simp only [go_sem, L6, exists_eq_left', Option.some.injEq]
  simp [G1, G2, B1, AV.asOwn, B3, A9, AV.isNil, J8, B6, B4, B8]
 | some c =>
  simp only [go_sem, L7, Option.isNone_some, show 0 * 56 ≤ 2 ^ 47 from by decide, show 0 < 2 ^ 47 from by decide]
  refine wS [106] ?_
  simp only [go_sem, L6, exists_eq_left', Option.some.injEq]
  simp [G1, G2, B1, AV.asOwn, B3, A9, AV.isNil, J8, B6, B4, B8]

theorem A57 : Meets Tryz.prog E0 C7 [.t (.sl 4 [])] [] (.t (.sl 4 [])) [] :=
 Meets.of_empty (xs := []) (ys := []) D37

theorem A7w (id : Nat) (e : List T) (es : List (List T)) (hl : es.length ≤ 1000000000) : Meets Tryz.prog E0 C7 [.t (.sl 4 (e :: es))] [] (.own id 4 0 (es.length + 1) true) [(id, .row 4 true (e :: es))] := by
 have h0 : Meets Tryz.prog E0 C7 [.t (.sl 4 (e :: es))] [] (.own 0 4 0 (es.length + 1) true) [(0, .row 4 true (e :: es))] := by
  have h1 : (es.length + 1) * 56 ≤ 2 ^ 47 := by omega
  have h2 : es.length + 1 < 2 ^ 47 := by omega
  refine X8 (by simp) (C2 (by simp [B5, AV.ids, A4]) (by simp [Ob.live, Ob.ids, A4, B5, AV.ids])) (C2 (by simp [B5, AV.ids, A4]) (by simp [Ob.live, Ob.ids, A4, B5, AV.ids])) (by simp [A4]) (by simp [A4]) ?_
  simp only [go_sem, L7, h1, h2]
  refine wO [(0, 106)] [] ?_
  simp only [go_sem, L6, exists_eq_left', Option.some.injEq]
  simp [G1, G2, B1, AV.asOwn, B3, A9, AV.isNil, J8, B6, B4, B8, ren]
 have := h0.ren (fun _ => id) (by simp [A4])
 simpa [A1y, A0z, A6i, A6v] using this

/-- Whether a name stands ahead. -/
def D7n (x y : F4) : Int := A26 x.1 y.1
def A8x (x y : F4) : Bool := decide (A26 x.1 y.1 < 0)

theorem D4k : B0 D7n = A8x := rfl
theorem E3s : B2 = U4 := rfl

theorem D40 : Below3 A8x where
 asym := fun a b h => by
  unfold A8x at *
  have h := of_decide_eq_true h
  refine decide_eq_false ?_
  rw [B2o a.1 b.1]
  omega
 tr := fun a b c h1 h2 => by
  unfold A8x at *
  have h1 := of_decide_eq_false h1
  have h2 := of_decide_eq_false h2
  refine decide_eq_false ?_
  have e1 := B2o b.1 a.1
  have e2 := B2o c.1 b.1
  have e3 := B2o c.1 a.1
  have := D7w a.1 b.1 c.1 (by omega) (by omega)
  omega

theorem C0x (x y : F4) : Meets Tryz.prog E0 A1f [.ag [Q5 (D6 x.1), I x.2.1, I x.2.2.1, M6 x.2.2.2], .ag [Q5 (D6 y.1), I y.2.1, I y.2.2.1, M6 y.2.2.2]] [] (I (D7n x y)) [] := by
 refine X6 C0v ?_
 simp only [go_sem, B2r]
 refine A6 (B94 x.1 y.1) ?_
 simp only [go_sem]
 refine wE ?_
 simp only [go_sem, B1p]
 first | done | rfl

abbrev A0e (l : List F4) : AV := .t (.sl 4 (l.map U4))

theorem C5g (l : List F4) (hl : l.length ≤ 1000000) : Meets Tryz.prog E0 A93 [A0e l] [] (A0e (F7 A8x l)) [] := by
 refine X6 C63 ?_
 cases l with
 | nil =>
  simp only [List.map_nil, B2l]
  have h := B1a A1f
  simp only [go_sem, A8m]
  refine A6 A57 ?_
  simp only [go_sem]
  refine A6 h ?_
  simp only [go_sem]
  refine wS [] ?_
  simp only [go_sem, A8w, exists_eq_left', Option.some.injEq]
  simp [G1, G2, B1, AV.asOwn, B3, A9, AV.isNil, J8, B6, B4, B8]
 | cons x l =>
  have hc := A7w 700 (U4 x) (l.map U4) (by simp at hl ⊢; omega)
  have h := (B2n A1f (l.length + 1) true D7n (fun _ => True) (fun x y _ _ => C0x x y) (by rw [D4k]; exact D40) (by simp at hl; omega) (x :: l) rfl (fun _ _ => trivial)).ren (fun _ => 700) (by simp [A4])
  simp only [A1y, A0z, A6i, A6v] at h
  rw [List.length_map] at hc
  rw [D4k, E3s] at h
  have hll := O6 A8x (x :: l)
  simp only [List.map_cons] at h ⊢
  generalize F7 A8x (x :: l) = s at *
  simp only [go_sem, A8m]
  refine C18 hc (by simp [A4, A9]) (by simp [A4]) ?_
  simp only [go_sem]
  refine oB (h) ?_
  simp only [go_sem]
  refine wS [700] ?_
  simp only [go_sem, A8w, exists_eq_left', Option.some.injEq]
  simp [G1, G2, B1, AV.asOwn, B3, A9, AV.isNil, J8, B6, B4, B8, hll, List.take_of_length_le]

/-- A call of a function value that has variables: they are handed, and left. -/
theorem A76 {P : Program} {E : Env} {io : List Nat} {Q : Exit → St → Prop} {k : List Kt} {env : List (Nat × AV)} {sto : List (Nat × Ob)} {draw : Bool} {prs : List (Nat × Nat)} {vars : List Nat} {id : Nat} {acc : List Rc}
  {ops : List SO} {d : Option Nat} {g : FuncId} {xs caps : List AV} {r : AV} {ins outs : List (Nat × Ob)} (h : Meets P E g (xs ++ caps) ins r outs) (hin : ∀ i ∈ A4 ins, A9 sto i = A9 ins i) (hk : A4 outs = A4 ins) (nd : (A4 ins).Nodup)
  (hr : R P E io Q draw prs vars k (id + 1) ops (if draw then acc ++ [⟨r, B5 (xs ++ caps) ++ A4 outs, outs⟩] else acc) (match d with | some d => (d, r) :: env | none => env) (outs ++ sto)) :
  Cl P E io Q draw prs vars k id ops acc d env sto (.fn g [] caps) xs := by
 refine ⟨g, [], caps, rfl, r, ins, outs, [], false, xs ++ caps, ?_, ?_⟩
 ·exact { meets := h, wk := by simpa using Wks.refl (xs ++ caps), insOk := hin, newOk := fun i hi => Or.inl (by rw [← hk]; exact hi), snOk := by simp, keepOk := by simp, nd := by rw [hk]; exact nd }
 ·simp only [D67, List.append_nil, List.nil_append, Bool.false_eq_true, if_false]
  exact hr

def A8 (x : (F4 × Option Int)) : List T := [.v (.string (D6 (x).1.1)), .v (.int .i64 (x).1.2.1), .v (.int .i64 (x).1.2.2.1), .sl 2 ((x).1.2.2.2.map D7), .v (.bool (x).2.isNone), .v (.int .i64 ((x).2.getD 0))]

theorem B1g {p u m v q : List (F4 × Option Int)} {i : Nat} (hn : u.length = v.length) (hi : i < u.length) : ∃ x y, (p ++ (v.take i ++ u.drop i) ++ m ++ (u.take i ++ v.drop i) ++ q)[p.length + i]? = some x ∧ (p ++ (v.take i ++ u.drop i) ++ m ++ (u.take i ++ v.drop i) ++ q)[p.length + u.length + m.length + i]? = some y ∧
  (((p ++ (v.take i ++ u.drop i) ++ m ++ (u.take i ++ v.drop i) ++ q).set (p.length + i) y)[p.length + u.length + m.length + i]? = some y) ∧
  ((p ++ (v.take i ++ u.drop i) ++ m ++ (u.take i ++ v.drop i) ++ q).set (p.length + i) y).set (p.length + u.length + m.length + i) x = p ++ (v.take (i + 1) ++ u.drop (i + 1)) ++ m ++ (u.take (i + 1) ++ v.drop (i + 1)) ++ q := by
 obtain ⟨u1, x, u2, rfl, rfl⟩ : ∃ u1 x u2, u = u1 ++ x :: u2 ∧ u1.length = i := ⟨u.take i, u[i], u.drop (i + 1), by simp, by simp; omega⟩
 obtain ⟨v1, y, v2, rfl, hv⟩ : ∃ v1 y v2, v = v1 ++ y :: v2 ∧ v1.length = u1.length := ⟨v.take u1.length, v[u1.length], v.drop (u1.length + 1), by simp, by simp; omega⟩
 have l2 : v2.length = u2.length := by simp at hn; omega
 refine ⟨x, y, ?_⟩
 have e1 : (v1 ++ y :: v2).take u1.length ++ (u1 ++ x :: u2).drop u1.length = v1 ++ x :: u2 := by rw [← hv, List.take_left, hv, List.drop_left]
 have e2 : (u1 ++ x :: u2).take u1.length ++ (v1 ++ y :: v2).drop u1.length = u1 ++ y :: v2 := by rw [List.take_left, ← hv, List.drop_left]
 have e3 : (v1 ++ y :: v2).take (u1.length + 1) ++ (u1 ++ x :: u2).drop (u1.length + 1) = v1 ++ y :: u2 := by
  rw [show v1 ++ y :: v2 = (v1 ++ [y]) ++ v2 by simp, show u1 ++ x :: u2 = (u1 ++ [x]) ++ u2 by simp, List.take_left' (by simp [hv]), List.drop_left' (by simp)]; simp
 have e4 : (u1 ++ x :: u2).take (u1.length + 1) ++ (v1 ++ y :: v2).drop (u1.length + 1) = u1 ++ x :: v2 := by
  rw [show v1 ++ y :: v2 = (v1 ++ [y]) ++ v2 by simp, show u1 ++ x :: u2 = (u1 ++ [x]) ++ u2 by simp, List.take_left' (by simp), List.drop_left' (by simp [hv])]; simp
 rw [e1, e2, e3, e4]
 have f1 : p ++ (v1 ++ x :: u2) ++ m ++ (u1 ++ y :: v2) ++ q = (p ++ v1) ++ x :: (u2 ++ m ++ u1 ++ y :: (v2 ++ q)) := by simp
 have f2 : p ++ (v1 ++ y :: u2) ++ m ++ (u1 ++ y :: v2) ++ q = (p ++ v1 ++ y :: u2 ++ m ++ u1) ++ y :: (v2 ++ q) := by simp
 have n1 : p.length + u1.length = (p ++ v1).length := by simp [hv]
 have n2 : p.length + (u1 ++ x :: u2).length + m.length + u1.length = (p ++ v1 ++ y :: u2 ++ m ++ u1).length := by simp [hv]; omega
 have s1 : (p ++ (v1 ++ x :: u2) ++ m ++ (u1 ++ y :: v2) ++ q).set (p.length + u1.length) y = p ++ (v1 ++ y :: u2) ++ m ++ (u1 ++ y :: v2) ++ q := by
  rw [f1, n1, List.set_append_right _ _ (Nat.le_refl _), Nat.sub_self, List.set_cons_zero]; simp
 refine ⟨?_, ?_, ?_, ?_⟩
 ·rw [f1, n1, List.getElem?_append_right (Nat.le_refl _), Nat.sub_self]; rfl
 ·have : p ++ (v1 ++ x :: u2) ++ m ++ (u1 ++ y :: v2) ++ q = (p ++ v1 ++ x :: u2 ++ m ++ u1) ++ y :: (v2 ++ q) := by simp
  rw [this, show p.length + (u1 ++ x :: u2).length + m.length + u1.length = (p ++ v1 ++ x :: u2 ++ m ++ u1).length by simp [hv]; omega, List.getElem?_append_right (Nat.le_refl _), Nat.sub_self]; rfl
 ·rw [s1, f2, n2, List.getElem?_append_right (Nat.le_refl _), Nat.sub_self]; rfl
 ·rw [s1, f2, n2, List.set_append_right _ _ (Nat.le_refl _), Nat.sub_self, List.set_cons_zero]; simp

theorem Z1 (g L : Nat) (r : Bool) (cdn : Bool) (p u m v q : List (F4 × Option Int)) (hn : u.length = v.length) (hL : L = (p ++ u ++ m ++ v ++ q).length) (hb : L ≤ 281474976710656) :
  Meets Tryz.prog E0 G4 [.own 0 6 0 L r, I p.length, I (p.length + u.length + m.length : Nat), I u.length, .fn g [] [.ptr 1 0]] [(0, .row 6 true ((p ++ u ++ m ++ v ++ q).map A8)), (1, .box [Bo cdn])] (.tp []) [(0, .row 6 true ((p ++ v ++ m ++ u ++ q).map A8)), (1, .box [Bo cdn])] := by
 refine A1v (by simp) (C2 (by simp [B5, AV.ids, A4]) (by simp [Ob.live, Ob.ids, A4, B5, AV.ids])) (C2 (by simp [B5, AV.ids, A4]) (by simp [Ob.live, Ob.ids, A4, B5, AV.ids])) (by simp [A4]) (by simp [A4]) ?_
 simp only [go_sem, U0]
 refine C8 (fun i : Nat => u.length - i) (fun i => i ≤ u.length)
  (fun i => [(0, .own 0 6 0 L r), (1, I p.length), (2, I (p.length + u.length + m.length : Nat)), (3, I u.length), (10, I i)])
  (fun i => [(0, .row 6 true ((p ++ (v.take i ++ u.drop i) ++ m ++ (u.take i ++ v.drop i) ++ q).map A8)), (1, .box [Bo cdn])]) 0 (Nat.zero_le _) ?_ ?_
 ·simp only [List.take_zero, List.drop_zero, List.nil_append]
  exact (sR [] [])
 ·intro i hi
  simp only [List.length_append] at hL
  by_cases hlt : i < u.length
  ·obtain ⟨x, y, g1, g2, g3, g4⟩ := B1g (p := p) (m := m) (q := q) hn hlt
   have ea : IntKind.i64.wrap ((p.length : Int) + (i : Int)) = ((p.length + i : Nat) : Int) := by rw [A5 (by omega) (by omega)]; omega
   have eb : IntKind.i64.wrap (((p.length + u.length + m.length : Nat) : Int) + (i : Int)) = ((p.length + u.length + m.length + i : Nat) : Int) := by rw [A5 (by omega) (by omega)]; omega
   have ei : IntKind.i64.wrap ((i : Int) + 1) = ((i + 1 : Nat) : Int) := by rw [A5 (by omega) (by omega)]; omega
   have ia : ((p.length + i : Nat) : Int) < (L : Int) := by omega
   have ib : ((p.length + u.length + m.length + i : Nat) : Int) < (L : Int) := by omega
   have d1 : decide (i < u.length) = true := decide_eq_true hlt
   have hnx : ((((p ++ (v.take i ++ u.drop i) ++ m ++ (u.take i ++ v.drop i) ++ q).map A8).set (p.length + i) [.v (.string (D6 (y).1.1)), .v (.int .i64 (y).1.2.1), .v (.int .i64 (y).1.2.2.1), .sl 2 ((y).1.2.2.2.map D7), .v (.bool (y).2.isNone), .v (.int .i64 ((y).2.getD 0))]).set (p.length + u.length + m.length + i) [.v (.string (D6 (x).1.1)), .v (.int .i64 (x).1.2.1), .v (.int .i64 (x).1.2.2.1), .sl 2 ((x).1.2.2.2.map D7), .v (.bool (x).2.isNone), .v (.int .i64 ((x).2.getD 0))]) = (p ++ (v.take (i + 1) ++ u.drop (i + 1)) ++ m ++ (u.take (i + 1) ++ v.drop (i + 1)) ++ q).map A8 := by
    rw [← g4, List.map_set, List.map_set]; rfl
   have h3 : (((p ++ (v.take i ++ u.drop i) ++ m ++ (u.take i ++ v.drop i) ++ q).map A8).set (p.length + i) [.v (.string (D6 (y).1.1)), .v (.int .i64 (y).1.2.1), .v (.int .i64 (y).1.2.2.1), .sl 2 ((y).1.2.2.2.map D7), .v (.bool (y).2.isNone), .v (.int .i64 ((y).2.getD 0))])[p.length + u.length + m.length + i]? = some [.v (.string (D6 (y).1.1)), .v (.int .i64 (y).1.2.1), .v (.int .i64 (y).1.2.2.1), .sl 2 ((y).1.2.2.2.map D7), .v (.bool (y).2.isNone), .v (.int .i64 ((y).2.getD 0))] := by
    have := congrArg (Option.map A8) g3
    rw [← List.getElem?_map, List.map_set] at this
    exact this
   generalize p ++ (v.take i ++ u.drop i) ++ m ++ (u.take i ++ v.drop i) ++ q = d at *
   have h1 : (d.map A8)[p.length + i]? = some [.v (.string (D6 (x).1.1)), .v (.int .i64 (x).1.2.1), .v (.int .i64 (x).1.2.2.1), .sl 2 ((x).1.2.2.2.map D7), .v (.bool (x).2.isNone), .v (.int .i64 ((x).2.getD 0))] := by rw [List.getElem?_map, g1]; rfl
   have h2 : (d.map A8)[p.length + u.length + m.length + i]? = some [.v (.string (D6 (y).1.1)), .v (.int .i64 (y).1.2.1), .v (.int .i64 (y).1.2.2.1), .sl 2 ((y).1.2.2.2.map D7), .v (.bool (y).2.isNone), .v (.int .i64 ((y).2.getD 0))] := by rw [List.getElem?_map, g2]; rfl
   generalize d.map A8 = dm at *
   simp only [go_sem, d1, ea, eb, ia, ib, h1, h2, h3, ei, hnx]
   exact C3 (i + 1) (by first | omega | (simp only; omega)) hlt (sR [] [])
  ·obtain rfl : i = u.length := by omega
   have d1 : decide (u.length < u.length) = false := decide_eq_false (by omega)
   have e1 : v.take u.length = v := List.take_of_length_le (by omega)
   have e2 : u.drop u.length = [] := List.drop_length
   have e3 : u.take u.length = u := List.take_length
   have e4 : v.drop u.length = [] := List.drop_of_length_le (by omega)
   simp only [e1, e2, e3, e4, List.append_nil]
   simp only [go_sem, d1]
   refine wO [] [] ?_
   simp only [go_sem, T8, exists_eq_left', Option.some.injEq]
   simp [G1, G2, B1, AV.asOwn, B3, A9, AV.isNil, J8, B6, B4, B8, ren]

set_option maxHeartbeats 1000000 in
theorem B0x (g L : Nat) (r : Bool) (cdn : Bool) (p x y q : List (F4 × Option Int)) (hx : x ≠ []) (hy : y ≠ []) (hL : L = (p ++ x ++ y ++ q).length) (hb : L ≤ 281474976710656) :
  Meets Tryz.prog E0 H3 [.own 0 6 0 L r, I p.length, I (p.length + x.length : Nat), I (p.length + x.length + y.length : Nat), .fn g [] [.ptr 1 0]] [(0, .row 6 true ((p ++ x ++ y ++ q).map A8)), (1, .box [Bo cdn])] (.tp []) [(0, .row 6 true ((p ++ y ++ x ++ q).map A8)), (1, .box [Bo cdn])] := by
 generalize hout : p ++ y ++ x ++ q = out
 have hLs : L = p.length + x.length + y.length + q.length := by rw [hL]; simp only [List.length_append]
 obtain ⟨M, hM⟩ : ∃ M, p.length + x.length = M := ⟨_, rfl⟩
 have ex : IntKind.i64.wrap (((p.length + x.length : Nat) : Int) - (p.length : Int)) = (x.length : Int) := by rw [A5 (by omega) (by omega)]; omega
 have ey : IntKind.i64.wrap (((p.length + x.length + y.length : Nat) : Int) - ((p.length + x.length : Nat) : Int)) = (y.length : Int) := by rw [A5 (by omega) (by omega)]; omega
 rw [hM] at ex ey ⊢
 refine A2l (by simp) (C2 (by simp [B5, AV.ids, A4]) (by simp [Ob.live, Ob.ids, A4, B5, AV.ids])) (C2 (by simp [B5, AV.ids, A4]) (by simp [Ob.live, Ob.ids, A4, B5, AV.ids])) (by simp [A4]) (by simp [A4]) ?_
 simp only [go_sem, W9, ex, ey]
 refine C8 (fun s : List (F4 × Option Int) × List (F4 × Option Int) × List (F4 × Option Int) × List (F4 × Option Int) => s.2.1.length + s.2.2.1.length) (fun s => s.2.1 ≠ [] ∧ s.2.2.1 ≠ [] ∧ s.1.length + s.2.1.length = M ∧ s.1.length + s.2.1.length + s.2.2.1.length + s.2.2.2.length = L ∧ s.1 ++ s.2.2.1 ++ s.2.1 ++ s.2.2.2 = out)
  (fun s => [(0, .own 0 6 0 L r), (2, I M), (4, .fn g [] [.ptr 1 0]), (10, I s.2.1.length), (11, I s.2.2.1.length)])
  (fun s => [(0, .row 6 true ((s.1 ++ s.2.1 ++ s.2.2.1 ++ s.2.2.2).map A8)), (1, .box [Bo cdn])]) (p, x, y, q) ⟨hx, hy, hM, hLs.symm, hout⟩ (sR [] []) ?_
 clear hout ex ey hL hLs hM hx hy
 rintro ⟨p, x, y, q⟩ ⟨hx, hy, hM, hLs, hout⟩
 simp only at hx hy hM hLs hout ⊢
 have hxl : 0 < x.length := List.length_pos_iff.2 hx
 have hyl : 0 < y.length := List.length_pos_iff.2 hy
 have ea : IntKind.i64.wrap ((M : Int) - (x.length : Int)) = (p.length : Int) := by rw [A5 (by omega) (by omega)]; omega
 rcases Nat.lt_trichotomy x.length y.length with hlt | heq | hgt
 ·have d1 : decide ((x.length : Int) = (y.length : Int)) = false := decide_eq_false (by omega)
  have d1' : decide (x.length = y.length) = false := decide_eq_false (by omega)
  have d2 : decide (y.length < x.length) = false := decide_eq_false (by omega)
  obtain ⟨y1, y2, rfl, hy1⟩ := A1c (show y.length - x.length ≤ y.length by omega)
  have hy2 : x.length = y2.length := by simp at hy1 hlt; omega
  have n1 : y2 ≠ [] := fun e => by rw [e, List.length_nil] at hy2; omega
  have n2 : y1 ≠ [] := fun e => by have e' := congrArg List.length e; simp only [List.length_append, List.length_nil] at e' hy1 hlt; omega
  have h := Z1 g L r cdn p x y1 y2 q hy2 (by simp at hLs ⊢; omega) hb
  have e1 : p.length + x.length + y1.length = M + y1.length := by omega
  rw [e1] at h
  have e2 : p ++ x ++ (y1 ++ y2) ++ q = p ++ x ++ y1 ++ y2 ++ q := by simp
  rw [e2]
  have e3 : IntKind.i64.wrap (IntKind.i64.wrap ((M : Int) + ((y1 ++ y2).length : Int)) - (x.length : Int)) = ((M + y1.length : Nat) : Int) := by
   rw [A5 (n := (M : Int) + _) (by omega) (by omega), A5 (by omega) (by omega)]; simp; omega
  have e4 : IntKind.i64.wrap (((y1 ++ y2).length : Int) - (x.length : Int)) = (y1.length : Int) := by
   rw [A5 (by omega) (by omega)]; simp; omega
  generalize hyy : (y1 ++ y2).length = yl at *
  simp only [go_sem, d1, d1', d2, ea, e3, e4]
  refine oB (h) ?_
  simp only [go_sem, e4]
  refine C3 (p, y2, y1, x ++ q) (by simp at hyy ⊢; omega) ⟨n1, n2, by simp only; omega, by simp at hyy ⊢; omega, by rw [← hout]; simp⟩ ?_
  rw [hy2]
  have e5 : p ++ y2 ++ y1 ++ (x ++ q) = p ++ y2 ++ y1 ++ x ++ q := by simp
  simp only
  rw [e5]
  exact (sR [] [])
 ·have d1 : decide ((x.length : Int) = (y.length : Int)) = true := decide_eq_true (by omega)
  have d1' : decide (x.length = y.length) = true := decide_eq_true heq
  have h := Z1 g L r cdn p x [] y q heq (by simp at hLs ⊢; omega) hb
  have e1 : p.length + x.length + ([] : List (F4 × Option Int)).length = M := by simp; omega
  rw [e1, List.append_nil, List.append_nil, hout] at h
  simp only [go_sem, d1, d1', ea]
  refine oB (h) ?_
  simp only [go_sem]
  refine wO [] [] ?_
  simp only [go_sem, X1, exists_eq_left', Option.some.injEq]
  simp [G1, G2, B1, AV.asOwn, B3, A9, AV.isNil, J8, B6, B4, B8, ren]
 ·have d1 : decide ((x.length : Int) = (y.length : Int)) = false := decide_eq_false (by omega)
  have d1' : decide (x.length = y.length) = false := decide_eq_false (by omega)
  have d2 : decide (y.length < x.length) = true := decide_eq_true hgt
  obtain ⟨x1, x2, rfl, hx1⟩ := A1c (show y.length ≤ x.length by omega)
  have hx2 : x2.length < (x1 ++ x2).length := by simp; omega
  have n1 : x2 ≠ [] := fun e => by have e' := congrArg List.length e; simp only [List.length_append, List.length_nil] at e' hx1 hgt; omega
  have n2 : x1 ≠ [] := fun e => by have e' := congrArg List.length e; simp only [List.length_append, List.length_nil] at e' hx1 hgt; omega
  have h := Z1 g L r cdn p x1 x2 y q hx1 (by simp at hLs ⊢; omega) hb
  have e1 : p.length + x1.length + x2.length = M := by simp at hM; omega
  rw [e1, hx1] at h
  have e2 : p ++ (x1 ++ x2) ++ y ++ q = p ++ x1 ++ x2 ++ y ++ q := by simp
  rw [e2]
  have e4 : IntKind.i64.wrap (((x1 ++ x2).length : Int) - (y.length : Int)) = (x2.length : Int) := by
   rw [A5 (by omega) (by omega)]; simp; omega
  generalize hxx : (x1 ++ x2).length = xl at *
  simp only [go_sem, d1, d1', d2, ea]
  refine oB (h) ?_
  simp only [go_sem, e4]
  refine C3 (p ++ y, x2, x1, q) (by simp at hxx ⊢; omega) ⟨n1, n2, by simp at hxx ⊢; omega, by simp at hxx ⊢; omega, by rw [← hout]; simp⟩ ?_
  simp only [hx1]
  exact (sR [] [])

def A7 (c : (F4 × Option Int) → (F4 × Option Int) → Int) (x y : (F4 × Option Int)) : Bool := decide (c x y < 0)

set_option maxHeartbeats 1000000 in
theorem A2i (g L : Nat) (r : Bool) (cdn : Bool) (c : (F4 × Option Int) → (F4 × Option Int) → Int) (D : (F4 × Option Int) → Prop) (hc : ∀ x y, D x → D y → Meets Tryz.prog E0 g ([(.ag [Q5 (D6 (x).1.1), I (x).1.2.1, I (x).1.2.2.1, M6 (x).1.2.2.2, Bo (x).2.isNone, I ((x).2.getD 0)]), (.ag [Q5 (D6 (y).1.1), I (y).1.2.1, I (y).1.2.2.1, M6 (y).1.2.2.2, Bo (y).2.isNone, I ((y).2.getD 0)])] ++ [.ptr 1 0]) [(1, .box [Bo cdn])] (I (c x y)) [(1, .box [Bo cdn])])
  (p m q : List (F4 × Option Int)) (hD : ∀ x ∈ m, D x) (hL : L = (p ++ m ++ q).length) (hb : L ≤ 281474976710656) :
  Meets Tryz.prog E0 F8 [.own 0 6 0 L r, I p.length, I (p.length + m.length : Nat), .fn g [] [.ptr 1 0]] [(0, .row 6 true ((p ++ m ++ q).map A8)), (1, .box [Bo cdn])] (.tp []) [(0, .row 6 true ((p ++ F7 (A7 c) m ++ q).map A8)), (1, .box [Bo cdn])] := by
 have hLs : L = p.length + m.length + q.length := by rw [hL]; simp only [List.length_append]
 obtain ⟨N, hN⟩ : ∃ N, p.length + m.length = N := ⟨_, rfl⟩
 rw [hN]
 refine R7 (by simp) (C2 (by simp [B5, AV.ids, A4]) (by simp [Ob.live, Ob.ids, A4, B5, AV.ids])) (C2 (by simp [B5, AV.ids, A4]) (by simp [Ob.live, Ob.ids, A4, B5, AV.ids])) (by simp [A4]) (by simp [A4]) ?_
 have e1 : IntKind.i64.wrap ((p.length : Int) + 1) = ((p.length + 1 : Nat) : Int) := by rw [A5 (by omega) (by omega)]; omega
 have e0 : p ++ m ++ q = p ++ F7 (A7 c) (m.take 1) ++ m.drop 1 ++ q := by
  cases m with
  | nil => simp [F7]
  | cons x m => simp [F7, A9o, A3l]
 simp only [go_sem, M1, e1]
 refine C8 (fun k : Nat => m.length + 1 - k) (fun k => 1 ≤ k ∧ k ≤ m.length + 1 ∧ (k ≤ m.length ∨ (k = 1 ∧ m = [])))
  (fun k => [(0, .own 0 6 0 L r), (1, I p.length), (2, I N), (3, .fn g [] [.ptr 1 0]), (8, I (p.length + k : Nat))])
  (fun k => [(0, .row 6 true ((p ++ F7 (A7 c) (m.take k) ++ m.drop k ++ q).map A8)), (1, .box [Bo cdn])]) 1 ⟨Nat.le_refl _, by omega, ?_⟩ ?_ ?_
 ·cases m with
  | nil => exact .inr ⟨rfl, rfl⟩
  | cons x m => exact .inl (by simp)
 ·rw [e0]; exact (sR [] [])
 clear e0 e1
 rintro k ⟨hk1, hk2, hk3⟩
 by_cases hlt : k < m.length
 ·have d1 : decide (p.length + k < N) = true := decide_eq_true (by omega)
  have ei : IntKind.i64.wrap (((p.length + k : Nat) : Int) + 1) = ((p.length + (k + 1) : Nat) : Int) := by rw [A5 (by omega) (by omega)]; omega
  obtain ⟨m1, x, m2, rfl, rfl⟩ := C7u hlt
  have t1 : (m1 ++ x :: m2).take m1.length = m1 := List.take_left
  have t2 : (m1 ++ x :: m2).drop m1.length = x :: m2 := List.drop_left
  have t3 : (m1 ++ x :: m2).take (m1.length + 1) = m1 ++ [x] := by rw [show m1 ++ x :: m2 = (m1 ++ [x]) ++ m2 by simp, List.take_left' (by simp)]
  have t4 : (m1 ++ x :: m2).drop (m1.length + 1) = m2 := by rw [show m1 ++ x :: m2 = (m1 ++ [x]) ++ m2 by simp, List.drop_left' (by simp)]
  have hx : D x := hD x (by simp)
  have hS : ∀ y ∈ F7 (A7 c) m1, D y := fun y hy => hD y (by simp [(Y1 _ y m1).1 hy])
  have hSl := O6 (A7 c) m1
  have hnext := A20 (A7 c) m1 x
  rw [t1, t2]
  generalize hS0 : F7 (A7 c) m1 = S at *
  have hml : (m1 ++ x :: m2).length = m1.length + 1 + m2.length := by simp; omega
  rw [hml] at hN hLs hk2 hk3 hlt ⊢
  simp only [go_sem, d1]
  refine C8 (fun s : List (F4 × Option Int) × List (F4 × Option Int) => s.1.length) (fun s => s.1.length + s.2.length = m1.length ∧ (∀ y ∈ s.1, D y) ∧ A9o (A7 c) x s.1 ++ s.2 = F7 (A7 c) (m1 ++ [x]))
   (fun s => [(0, .own 0 6 0 L r), (1, I p.length), (2, I N), (3, .fn g [] [.ptr 1 0]), (8, I (p.length + m1.length : Nat)), (9, I (p.length + s.1.length : Nat))])
   (fun s => [(0, .row 6 true ((p ++ s.1 ++ x :: (s.2 ++ m2 ++ q)).map A8)), (1, .box [Bo cdn])]) (S, []) ⟨by simp; omega, hS, by rw [hnext]; simp⟩ ?_ ?_
  ·simp only [hSl, List.nil_append]
   rw [show p ++ S ++ x :: m2 ++ q = p ++ S ++ x :: (m2 ++ q) by simp]
   exact (sR [] [])
  rintro ⟨s1, s2⟩ ⟨hs1, hs2, hs3⟩
  simp only at hs1 hs2 hs3 ⊢
  rcases B0f s1 with rfl | ⟨s1, y, rfl⟩
  ·have d2 : decide (p.length < p.length) = false := decide_eq_false (by omega)
   simp only [List.length_nil, Nat.add_zero]
   rw [D2f] at hs3
   have e2 : p ++ [] ++ x :: (s2 ++ m2 ++ q) = p ++ F7 (A7 c) (m1 ++ [x]) ++ m2 ++ q := by rw [← hs3]; simp
   rw [e2]
   simp only [go_sem, d2, ei]
   refine C3 (m1.length + 1) (by first | omega | (simp only; omega)) ⟨by omega, by omega, .inl (by omega)⟩ ?_
   simp only [t3, t4]
   exact (sR [] [])
  ·have hy : D y := hs2 y (by simp)
   have hcc := hc x y hx hy
   have hl1 : (s1 ++ [y]).length = s1.length + 1 := by simp
   rw [hl1] at hs1
   simp only [hl1]
   have d2 : decide (p.length < p.length + (s1.length + 1)) = true := decide_eq_true (by omega)
   rw [C1b] at hs3
   obtain ⟨g1, g2, g3, g4, _⟩ := B6c (p ++ s1) y x (s2 ++ m2 ++ q) (n := p.length + s1.length) (m := p.length + (s1.length + 1)) (by simp) (by omega)
   have ed : p ++ (s1 ++ [y]) ++ x :: (s2 ++ m2 ++ q) = p ++ s1 ++ y :: x :: (s2 ++ m2 ++ q) := by simp
   rw [ed]
   have em : IntKind.i64.wrap (((p.length + (s1.length + 1) : Nat) : Int) - 1) = ((p.length + s1.length : Nat) : Int) := by rw [A5 (by omega) (by omega)]; omega
   have ia : ((p.length + s1.length : Nat) : Int) < (L : Int) := by omega
   have ib : ((p.length + (s1.length + 1) : Nat) : Int) < (L : Int) := by omega
   have hnx : (((p ++ s1 ++ y :: x :: (s2 ++ m2 ++ q)).map A8).set (p.length + (s1.length + 1)) [.v (.string (D6 (y).1.1)), .v (.int .i64 (y).1.2.1), .v (.int .i64 (y).1.2.2.1), .sl 2 ((y).1.2.2.2.map D7), .v (.bool (y).2.isNone), .v (.int .i64 ((y).2.getD 0))]).set (p.length + s1.length) [.v (.string (D6 (x).1.1)), .v (.int .i64 (x).1.2.1), .v (.int .i64 (x).1.2.2.1), .sl 2 ((x).1.2.2.2.map D7), .v (.bool (x).2.isNone), .v (.int .i64 ((x).2.getD 0))] = (p ++ s1 ++ x :: y :: (s2 ++ m2 ++ q)).map A8 := by
    rw [← g4, List.map_set, List.map_set]; rfl
   have h3 : (((p ++ s1 ++ y :: x :: (s2 ++ m2 ++ q)).map A8).set (p.length + (s1.length + 1)) [.v (.string (D6 (y).1.1)), .v (.int .i64 (y).1.2.1), .v (.int .i64 (y).1.2.2.1), .sl 2 ((y).1.2.2.2.map D7), .v (.bool (y).2.isNone), .v (.int .i64 ((y).2.getD 0))])[p.length + s1.length]? = some [.v (.string (D6 (y).1.1)), .v (.int .i64 (y).1.2.1), .v (.int .i64 (y).1.2.2.1), .sl 2 ((y).1.2.2.2.map D7), .v (.bool (y).2.isNone), .v (.int .i64 ((y).2.getD 0))] := by
    have := congrArg (Option.map A8) g3
    rw [← List.getElem?_map, List.map_set] at this
    exact this
   have h1 : ((p ++ s1 ++ y :: x :: (s2 ++ m2 ++ q)).map A8)[p.length + s1.length]? = some [.v (.string (D6 (y).1.1)), .v (.int .i64 (y).1.2.1), .v (.int .i64 (y).1.2.2.1), .sl 2 ((y).1.2.2.2.map D7), .v (.bool (y).2.isNone), .v (.int .i64 ((y).2.getD 0))] := by rw [List.getElem?_map, g1]; rfl
   have h2 : ((p ++ s1 ++ y :: x :: (s2 ++ m2 ++ q)).map A8)[p.length + (s1.length + 1)]? = some [.v (.string (D6 (x).1.1)), .v (.int .i64 (x).1.2.1), .v (.int .i64 (x).1.2.2.1), .sl 2 ((x).1.2.2.2.map D7), .v (.bool (x).2.isNone), .v (.int .i64 ((x).2.getD 0))] := by rw [List.getElem?_map, g2]; rfl
   cases hlt2 : decide (c x y < 0)
   ·have hlt3 : A7 c x y = false := hlt2
    rw [hlt3, if_neg (by decide)] at hs3
    have e2 : p ++ s1 ++ y :: x :: (s2 ++ m2 ++ q) = p ++ F7 (A7 c) (m1 ++ [x]) ++ m2 ++ q := by rw [← hs3]; simp
    generalize (p ++ s1 ++ y :: x :: (s2 ++ m2 ++ q)) = d at *
    subst e2
    generalize h5 : List.map A8 (p ++ F7 (A7 c) (m1 ++ [x]) ++ m2 ++ q) = dm at *
    simp only [go_sem, d2, hl1, em, ia, ib, h1, h2]
    refine A76 (hcc) (by simp [A4, A9]) (by simp [A4]) (by simp [A4]) ?_
    simp only [go_sem, hlt2, ei]
    refine C3 (m1.length + 1) (by first | omega | (simp only; omega)) ⟨by omega, by omega, .inl (by omega)⟩ ?_
    simp only [t3, t4, ← h5]
    exact (sR [] [])
   ·have hlt3 : A7 c x y = true := hlt2
    rw [hlt3, if_pos rfl] at hs3
    generalize hdm : List.map A8 (p ++ s1 ++ y :: x :: (s2 ++ m2 ++ q)) = dm at *
    simp only [go_sem, d2, hl1, em, ia, ib, h1, h2]
    refine A76 (hcc) (by simp [A4, A9]) (by simp [A4]) (by simp [A4]) ?_
    simp only [go_sem, hlt2, em, ia, ib, h1, h2, h3, hnx]
    refine C3 (s1, y :: s2) (by simp) ⟨by simp only [List.length_cons]; omega, fun z hz => hs2 z (by simp [hz]), by rw [← hs3]; simp⟩ ?_
    simp only [List.cons_append]
    exact (sR [] [])
 ·have d1 : decide (p.length + k < N) = false := decide_eq_false (by omega)
  have t1 : m.take k = m := List.take_of_length_le (by omega)
  have t2 : m.drop k = [] := List.drop_of_length_le (by omega)
  rw [t1, t2, List.append_nil]
  simp only [go_sem, d1]
  refine wO [] [] ?_
  simp only [go_sem, M2, exists_eq_left', Option.some.injEq]
  simp [G1, G2, B1, AV.asOwn, B3, A9, AV.isNil, J8, B6, B4, B8, ren]

theorem A0j {x y : Nat} (h : x + y ≤ 562949953421312) : IntKind.i64.wrap ((x : Int) + (y : Int)) = ((x + y : Nat) : Int) ∧ IntKind.u64.wrap ((x + y : Nat) : Int) = ((x + y : Nat) : Int) ∧ IntKind.i64.wrap (((x + y) / 2 ^ min 1 64 : Nat) : Int) = (((x + y) / 2 : Nat) : Int) := by
 rw [show 2 ^ min 1 64 = 2 from rfl]
 refine ⟨?_, ?_, ?_⟩
 ·rw [A5 (by omega) (by omega)]; omega
 ·rw [A0t]; omega
 ·rw [A5 (by omega) (by omega)]

set_option maxHeartbeats 1000000 in
theorem B31 (g L : Nat) (r : Bool) (cdn : Bool) (c : (F4 × Option Int) → (F4 × Option Int) → Int) (D : (F4 × Option Int) → Prop) (hc : ∀ x y, D x → D y → Meets Tryz.prog E0 g ([(.ag [Q5 (D6 (x).1.1), I (x).1.2.1, I (x).1.2.2.1, M6 (x).1.2.2.2, Bo (x).2.isNone, I ((x).2.getD 0)]), (.ag [Q5 (D6 (y).1.1), I (y).1.2.1, I (y).1.2.2.1, M6 (y).1.2.2.2, Bo (y).2.isNone, I ((y).2.getD 0)])] ++ [.ptr 1 0]) [(1, .box [Bo cdn])] (I (c x y)) [(1, .box [Bo cdn])]) (hO : Below3 (A7 c))
  (p b q : List (F4 × Option Int)) (x : (F4 × Option Int)) (hx : D x) (hb : ∀ y ∈ b, D y) (sb : Srt (A7 c) b) (hL : L = (p ++ [x] ++ b ++ q).length) (hLb : L ≤ 281474976710656) :
  Meets Tryz.prog E0 B7 [.own 0 6 0 L r, I p.length, I (p.length + 1 : Nat), I (p.length + 1 + b.length : Nat), .fn g [] [.ptr 1 0]] [(0, .row 6 true ((p ++ [x] ++ b ++ q).map A8)), (1, .box [Bo cdn])] (.tp []) [(0, .row 6 true ((p ++ mrg (A7 c) [x] b ++ q).map A8)), (1, .box [Bo cdn])] := by
 have hLs : L = p.length + 1 + b.length + q.length := by rw [hL]; simp only [List.length_append, List.length_cons, List.length_nil]
 refine O3 (by simp) (C2 (by simp [B5, AV.ids, A4]) (by simp [Ob.live, Ob.ids, A4, B5, AV.ids])) (C2 (by simp [B5, AV.ids, A4]) (by simp [Ob.live, Ob.ids, A4, B5, AV.ids])) (by simp [A4]) (by simp [A4]) ?_
 have e1 : IntKind.i64.wrap (((p.length + 1 : Nat) : Int) - (p.length : Int)) = 1 := by rw [A5 (by omega) (by omega)]; omega
 have d1 : decide ((1 : Int) = 1) = true := rfl
 simp only [go_sem, G7, e1, d1]
 refine C8 (fun s : Nat × Nat => s.2 - s.1) (fun s => s.1 ≤ s.2 ∧ s.2 ≤ b.length ∧ (∀ i y, i + 1 = s.1 → b[i]? = some y → A7 c y x = true) ∧ (∀ y, b[s.2]? = some y → A7 c y x = false))
  (fun s => [(0, .own 0 6 0 L r), (1, I p.length), (4, .fn g [] [.ptr 1 0]), (10, I (p.length + 1 + s.1 : Nat)), (11, I (p.length + 1 + s.2 : Nat))])
  (fun s => [(0, .row 6 true ((p ++ [x] ++ b ++ q).map A8)), (1, .box [Bo cdn])]) (0, b.length) ⟨Nat.zero_le _, Nat.le_refl _, by omega, fun y h => by simp at h⟩ (sR [] []) ?_
 rintro ⟨s, t⟩ ⟨hst, htb, hs, ht⟩
 simp only at hst htb hs ht ⊢
 by_cases hlt : s < t
 ·have d2 : decide (p.length + 1 + s < p.length + 1 + t) = true := decide_eq_true (by omega)
  obtain ⟨h1, h2, h3⟩ := A0j (x := p.length + 1 + s) (y := p.length + 1 + t) (by omega)
  have hh : (p.length + 1 + s + (p.length + 1 + t)) / 2 = p.length + 1 + (s + t) / 2 := by omega
  rw [hh] at h3
  have hk1 : s ≤ (s + t) / 2 := by omega
  have hk2 : (s + t) / 2 < t := by omega
  generalize (s + t) / 2 = k at *
  obtain ⟨y, hy, hym⟩ := A6r (show k < b.length by omega)
  have hcc := hc y x (hb y hym) hx
  have g1 : ((p ++ [x] ++ b ++ q).map A8)[p.length + 1 + k]? = some [.v (.string (D6 (y).1.1)), .v (.int .i64 (y).1.2.1), .v (.int .i64 (y).1.2.2.1), .sl 2 ((y).1.2.2.2.map D7), .v (.bool (y).2.isNone), .v (.int .i64 ((y).2.getD 0))] := by rw [List.getElem?_map, C7l (p := p) (a := [x]) (b := b) (q := q) (n := p.length + 1 + k) hy (by simp)]; rfl
  have g2 : ((p ++ [x] ++ b ++ q).map A8)[p.length]? = some [.v (.string (D6 (x).1.1)), .v (.int .i64 (x).1.2.1), .v (.int .i64 (x).1.2.2.1), .sl 2 ((x).1.2.2.2.map D7), .v (.bool (x).2.isNone), .v (.int .i64 ((x).2.getD 0))] := by rw [List.getElem?_map, C7k (p := p) (a := [x]) (b := b) (q := q) (n := p.length) (k := 0) (y := x) rfl rfl]; rfl
  have ia : ((p.length + 1 + k : Nat) : Int) < (L : Int) := by omega
  have ib : (p.length : Int) < (L : Int) := by omega
  have ek : IntKind.i64.wrap (((p.length + 1 + k : Nat) : Int) + 1) = ((p.length + 1 + (k + 1) : Nat) : Int) := by rw [A5 (by omega) (by omega)]; omega
  generalize hdm : (p ++ [x] ++ b ++ q).map A8 = dm at *
  cases hl2 : decide (c y x < 0)
  ·have hl3 : A7 c y x = false := hl2
   simp only [go_sem, H9, d2, h1, h2, h3, ia, ib, g1, g2]
   refine A76 (hcc) (by simp [A4, A9]) (by simp [A4]) (by simp [A4]) ?_
   simp only [go_sem, hl2]
   exact C3 (s, k) (by first | omega | (simp only; omega)) ⟨hk1, by simp only; omega, hs, fun z hz => by simp only at hz; rw [hy] at hz; injection hz with hz; rw [← hz]; exact hl3⟩ (sR [] [])
  ·have hl3 : A7 c y x = true := hl2
   simp only [go_sem, H9, d2, h1, h2, h3, ia, ib, g1, g2]
   refine A76 (hcc) (by simp [A4, A9]) (by simp [A4]) (by simp [A4]) ?_
   simp only [go_sem, hl2, ek]
   have hnew : ∀ i z, i + 1 = k + 1 → b[i]? = some z → A7 c z x = true := by
    intro i z hi hz
    obtain rfl : i = k := by omega
    rw [hy] at hz; injection hz with hz; rw [← hz]; exact hl3
   exact C3 (k + 1, t) (by first | omega | (simp only; omega)) ⟨hk2, htb, hnew, ht⟩ (sR [] [])
 ·obtain rfl : s = t := by omega
  have d2 : decide (p.length + 1 + s < p.length + 1 + s) = false := decide_eq_false (by omega)
  obtain ⟨b1, b2, rfl, rfl⟩ := A1c htb
  have hmrg : mrg (A7 c) [x] (b1 ++ b2) = b1 ++ x :: b2 := by
   refine C0a hO x sb (fun y hy => ?_) (fun y hy => ?_)
   ·obtain ⟨l1, hy⟩ := B28 hy
    exact hs (b1.length - 1) y (by omega) (by rw [List.getElem?_append_left (by omega)]; exact hy)
   ·obtain ⟨l1, hy⟩ := B2k hy
    exact ht y (by rw [List.getElem?_append_right (Nat.le_refl _), Nat.sub_self]; exact hy)
  rw [hmrg]
  have eo : p ++ (b1 ++ x :: b2) ++ q = p ++ b1 ++ x :: (b2 ++ q) := by simp
  rw [eo]
  have hbl : (b1 ++ b2).length = b1.length + b2.length := List.length_append
  rw [hbl] at hLs
  have ek : IntKind.i64.wrap (((p.length + 1 + b1.length : Nat) : Int) - 1) = ((p.length + b1.length : Nat) : Int) := by rw [A5 (by omega) (by omega)]; omega
  clear hs ht hbl hmrg
  simp only [go_sem, H9, S7, d2]
  refine C8 (fun u : List (F4 × Option Int) × List (F4 × Option Int) => u.2.length) (fun u => b1 = u.1 ++ u.2)
   (fun u => [(0, .own 0 6 0 L r), (10, I (p.length + 1 + b1.length : Nat)), (13, I (p.length + u.1.length : Nat))])
   (fun u => [(0, .row 6 true ((p ++ u.1 ++ x :: (u.2 ++ b2 ++ q)).map A8)), (1, .box [Bo cdn])]) ([], b1) rfl ?_ ?_
  ·have e2 : p ++ [x] ++ (b1 ++ b2) ++ q = p ++ [] ++ x :: (b1 ++ b2 ++ q) := by simp
   rw [e2]
   exact (sR [] [])
  ·rintro ⟨u1, u2⟩ hu
   simp only at hu ⊢
   cases u2 with
   | nil =>
    rw [List.append_nil] at hu
    subst hu
    have d3 : decide (p.length + b1.length < p.length + b1.length) = false := decide_eq_false (by omega)
    have e2 : p ++ b1 ++ x :: ([] ++ b2 ++ q) = p ++ b1 ++ x :: (b2 ++ q) := by simp
    rw [e2]
    simp only [go_sem, N3, ek, d3]
    refine wO [] [] ?_
    simp only [go_sem, J3, exists_eq_left', Option.some.injEq]
    simp [G1, G2, B1, AV.asOwn, B3, A9, AV.isNil, J8, B6, B4, B8, ren]
   | cons y u2 =>
    have hbl : b1.length = u1.length + (u2.length + 1) := by rw [hu]; simp
    have d3 : decide (p.length + u1.length < p.length + b1.length) = true := decide_eq_true (by omega)
    obtain ⟨g1, g2, _, _, g3, g4⟩ := B6c (p ++ u1) x y (u2 ++ b2 ++ q) (n := p.length + u1.length) (m := p.length + (u1.length + 1)) (by simp) (by omega)
    have e2 : p ++ u1 ++ x :: (y :: u2 ++ b2 ++ q) = p ++ u1 ++ x :: y :: (u2 ++ b2 ++ q) := by simp
    rw [e2]
    have em : IntKind.i64.wrap (((p.length + u1.length : Nat) : Int) + 1) = ((p.length + (u1.length + 1) : Nat) : Int) := by rw [A5 (by omega) (by omega)]; omega
    have ia : ((p.length + u1.length : Nat) : Int) < (L : Int) := by omega
    have ib : ((p.length + (u1.length + 1) : Nat) : Int) < (L : Int) := by omega
    have hnx : (((p ++ u1 ++ x :: y :: (u2 ++ b2 ++ q)).map A8).set (p.length + u1.length) [.v (.string (D6 (y).1.1)), .v (.int .i64 (y).1.2.1), .v (.int .i64 (y).1.2.2.1), .sl 2 ((y).1.2.2.2.map D7), .v (.bool (y).2.isNone), .v (.int .i64 ((y).2.getD 0))]).set (p.length + (u1.length + 1)) [.v (.string (D6 (x).1.1)), .v (.int .i64 (x).1.2.1), .v (.int .i64 (x).1.2.2.1), .sl 2 ((x).1.2.2.2.map D7), .v (.bool (x).2.isNone), .v (.int .i64 ((x).2.getD 0))] = (p ++ u1 ++ y :: x :: (u2 ++ b2 ++ q)).map A8 := by
     rw [← g4, List.map_set, List.map_set]; rfl
    have h3 : (((p ++ u1 ++ x :: y :: (u2 ++ b2 ++ q)).map A8).set (p.length + u1.length) [.v (.string (D6 (y).1.1)), .v (.int .i64 (y).1.2.1), .v (.int .i64 (y).1.2.2.1), .sl 2 ((y).1.2.2.2.map D7), .v (.bool (y).2.isNone), .v (.int .i64 ((y).2.getD 0))])[p.length + (u1.length + 1)]? = some [.v (.string (D6 (y).1.1)), .v (.int .i64 (y).1.2.1), .v (.int .i64 (y).1.2.2.1), .sl 2 ((y).1.2.2.2.map D7), .v (.bool (y).2.isNone), .v (.int .i64 ((y).2.getD 0))] := by
     have := congrArg (Option.map A8) g3
     rw [← List.getElem?_map, List.map_set] at this
     exact this
    have h1 : ((p ++ u1 ++ x :: y :: (u2 ++ b2 ++ q)).map A8)[p.length + u1.length]? = some [.v (.string (D6 (x).1.1)), .v (.int .i64 (x).1.2.1), .v (.int .i64 (x).1.2.2.1), .sl 2 ((x).1.2.2.2.map D7), .v (.bool (x).2.isNone), .v (.int .i64 ((x).2.getD 0))] := by rw [List.getElem?_map, g1]; rfl
    have h2 : ((p ++ u1 ++ x :: y :: (u2 ++ b2 ++ q)).map A8)[p.length + (u1.length + 1)]? = some [.v (.string (D6 (y).1.1)), .v (.int .i64 (y).1.2.1), .v (.int .i64 (y).1.2.2.1), .sl 2 ((y).1.2.2.2.map D7), .v (.bool (y).2.isNone), .v (.int .i64 ((y).2.getD 0))] := by rw [List.getElem?_map, g2]; rfl
    generalize hdm : List.map A8 (p ++ u1 ++ x :: y :: (u2 ++ b2 ++ q)) = dm at *
    simp only [go_sem, N3, ek, d3, em, ia, ib, h1, h2, h3, hnx]
    refine C3 (u1 ++ [y], u2) (by simp) (by simp only; rw [hu]; simp) ?_
    have e3 : p ++ u1 ++ y :: x :: (u2 ++ b2 ++ q) = p ++ (u1 ++ [y]) ++ x :: (u2 ++ b2 ++ q) := by simp
    rw [e3]
    simp only [List.length_append, List.length_cons, List.length_nil, Nat.zero_add]
    exact (sR [] [])

set_option maxHeartbeats 1000000 in
theorem B3j (g L : Nat) (r : Bool) (cdn : Bool) (c : (F4 × Option Int) → (F4 × Option Int) → Int) (D : (F4 × Option Int) → Prop) (hc : ∀ x y, D x → D y → Meets Tryz.prog E0 g ([(.ag [Q5 (D6 (x).1.1), I (x).1.2.1, I (x).1.2.2.1, M6 (x).1.2.2.2, Bo (x).2.isNone, I ((x).2.getD 0)]), (.ag [Q5 (D6 (y).1.1), I (y).1.2.1, I (y).1.2.2.1, M6 (y).1.2.2.2, Bo (y).2.isNone, I ((y).2.getD 0)])] ++ [.ptr 1 0]) [(1, .box [Bo cdn])] (I (c x y)) [(1, .box [Bo cdn])]) (hO : Below3 (A7 c))
  (p a q : List (F4 × Option Int)) (y : (F4 × Option Int)) (ha1 : a.length ≠ 1) (ha0 : a ≠ []) (hy : D y) (ha : ∀ x ∈ a, D x) (sa : Srt (A7 c) a) (hL : L = (p ++ a ++ [y] ++ q).length) (hLb : L ≤ 281474976710656) :
  Meets Tryz.prog E0 B7 [.own 0 6 0 L r, I p.length, I (p.length + a.length : Nat), I (p.length + a.length + 1 : Nat), .fn g [] [.ptr 1 0]] [(0, .row 6 true ((p ++ a ++ [y] ++ q).map A8)), (1, .box [Bo cdn])] (.tp []) [(0, .row 6 true ((p ++ mrg (A7 c) a [y] ++ q).map A8)), (1, .box [Bo cdn])] := by
 have hLs : L = p.length + a.length + 1 + q.length := by rw [hL]; simp only [List.length_append, List.length_cons, List.length_nil]
 obtain ⟨M, hM⟩ : ∃ M, p.length + a.length = M := ⟨_, rfl⟩
 rw [hM]
 have ha0' : 0 < a.length := List.length_pos_iff.2 ha0
 refine O3 (by simp) (C2 (by simp [B5, AV.ids, A4]) (by simp [Ob.live, Ob.ids, A4, B5, AV.ids])) (C2 (by simp [B5, AV.ids, A4]) (by simp [Ob.live, Ob.ids, A4, B5, AV.ids])) (by simp [A4]) (by simp [A4]) ?_
 have e1 : IntKind.i64.wrap ((M : Int) - (p.length : Int)) = (a.length : Int) := by rw [A5 (by omega) (by omega)]; omega
 have d1 : decide ((a.length : Int) = 1) = false := decide_eq_false (by omega)
 have e2 : IntKind.i64.wrap (((M + 1 : Nat) : Int) - (M : Int)) = 1 := by rw [A5 (by omega) (by omega)]; omega
 have d2 : decide ((1 : Int) = 1) = true := rfl
 simp only [go_sem, G7, I1, e1, d1, e2, d2]
 refine C8 (fun s : Nat × Nat => s.2 - s.1) (fun s => s.1 ≤ s.2 ∧ s.2 ≤ a.length ∧ (∀ i z, i + 1 = s.1 → a[i]? = some z → A7 c y z = false) ∧ (∀ z, a[s.2]? = some z → A7 c y z = true))
  (fun s => [(0, .own 0 6 0 L r), (1, I p.length), (2, I M), (4, .fn g [] [.ptr 1 0]), (14, I (p.length + s.1 : Nat)), (15, I (p.length + s.2 : Nat))])
  (fun s => [(0, .row 6 true ((p ++ a ++ [y] ++ q).map A8)), (1, .box [Bo cdn])]) (0, a.length) ⟨Nat.zero_le _, Nat.le_refl _, by omega, fun y h => by simp at h⟩ ?_ ?_
 ·simp only [hM, Nat.add_zero]
  exact (sR [] [])
 rintro ⟨s, t⟩ ⟨hst, hta, hs, ht⟩
 simp only at hst hta hs ht ⊢
 by_cases hlt : s < t
 ·have d2 : decide (p.length + s < p.length + t) = true := decide_eq_true (by omega)
  obtain ⟨h1, h2, h3⟩ := A0j (x := p.length + s) (y := p.length + t) (by omega)
  have hh : (p.length + s + (p.length + t)) / 2 = p.length + (s + t) / 2 := by omega
  rw [hh] at h3
  have hk1 : s ≤ (s + t) / 2 := by omega
  have hk2 : (s + t) / 2 < t := by omega
  generalize (s + t) / 2 = k at *
  obtain ⟨z, hz, hzm⟩ := A6r (show k < a.length by omega)
  have hcc := hc y z hy (ha z hzm)
  have g1 : ((p ++ a ++ [y] ++ q).map A8)[M]? = some [.v (.string (D6 (y).1.1)), .v (.int .i64 (y).1.2.1), .v (.int .i64 (y).1.2.2.1), .sl 2 ((y).1.2.2.2.map D7), .v (.bool (y).2.isNone), .v (.int .i64 ((y).2.getD 0))] := by rw [List.getElem?_map, C7l (p := p) (a := a) (b := [y]) (q := q) (n := M) (k := 0) (y := y) rfl (by omega)]; rfl
  have g2 : ((p ++ a ++ [y] ++ q).map A8)[p.length + k]? = some [.v (.string (D6 (z).1.1)), .v (.int .i64 (z).1.2.1), .v (.int .i64 (z).1.2.2.1), .sl 2 ((z).1.2.2.2.map D7), .v (.bool (z).2.isNone), .v (.int .i64 ((z).2.getD 0))] := by rw [List.getElem?_map, C7k (p := p) (a := a) (b := [y]) (q := q) (n := p.length + k) hz rfl]; rfl
  have ia : ((p.length + k : Nat) : Int) < (L : Int) := by omega
  have ib : (M : Int) < (L : Int) := by omega
  have ek : IntKind.i64.wrap (((p.length + k : Nat) : Int) + 1) = ((p.length + (k + 1) : Nat) : Int) := by rw [A5 (by omega) (by omega)]; omega
  generalize hdm : (p ++ a ++ [y] ++ q).map A8 = dm at *
  cases hl2 : decide (c y z < 0)
  ·have hl3 : A7 c y z = false := hl2
   have hnew : ∀ i x, i + 1 = k + 1 → a[i]? = some x → A7 c y x = false := by
    intro i x hi hx
    obtain rfl : i = k := by omega
    rw [hz] at hx; injection hx with hx; rw [← hx]; exact hl3
   simp only [go_sem, H8, d2, h1, h2, h3, ia, ib, g1, g2]
   refine A76 (hcc) (by simp [A4, A9]) (by simp [A4]) (by simp [A4]) ?_
   simp only [go_sem, hl2, ek]
   exact C3 (k + 1, t) (by first | omega | (simp only; omega)) ⟨hk2, hta, hnew, ht⟩ (sR [] [])
  ·have hl3 : A7 c y z = true := hl2
   have hnew : ∀ x, a[k]? = some x → A7 c y x = true := by
    intro x hx
    rw [hz] at hx; injection hx with hx; rw [← hx]; exact hl3
   simp only [go_sem, H8, d2, h1, h2, h3, ia, ib, g1, g2]
   refine A76 (hcc) (by simp [A4, A9]) (by simp [A4]) (by simp [A4]) ?_
   simp only [go_sem, hl2]
   exact C3 (s, k) (by first | omega | (simp only; omega)) ⟨hk1, by simp only; omega, hs, hnew⟩ (sR [] [])
 ·obtain rfl : s = t := by omega
  have d2 : decide (p.length + s < p.length + s) = false := decide_eq_false (by omega)
  obtain ⟨a1, a2, rfl, rfl⟩ := A1c hta
  have hmrg : mrg (A7 c) (a1 ++ a2) [y] = a1 ++ y :: a2 := by
   refine B7f hO y sa (fun z hz => ?_) (fun z hz => ?_)
   ·obtain ⟨l1, hz⟩ := B28 hz
    exact hs (a1.length - 1) z (by omega) (by rw [List.getElem?_append_left (by omega)]; exact hz)
   ·obtain ⟨l1, hz⟩ := B2k hz
    exact ht z (by rw [List.getElem?_append_right (Nat.le_refl _), Nat.sub_self]; exact hz)
  rw [hmrg]
  have eo : p ++ (a1 ++ y :: a2) ++ q = p ++ a1 ++ y :: (a2 ++ q) := by simp
  rw [eo]
  have hal : (a1 ++ a2).length = a1.length + a2.length := List.length_append
  rw [hal] at hLs hM
  clear hs ht hal hmrg e1 d1 ha0' ha1 hta
  simp only [go_sem, H8, S8, d2]
  refine C8 (fun u : List (F4 × Option Int) × List (F4 × Option Int) => u.1.length) (fun u => a2 = u.1 ++ u.2)
   (fun u => [(0, .own 0 6 0 L r), (14, I (p.length + a1.length : Nat)), (17, I (p.length + a1.length + u.1.length : Nat))])
   (fun u => [(0, .row 6 true ((p ++ a1 ++ u.1 ++ y :: (u.2 ++ q)).map A8)), (1, .box [Bo cdn])]) (a2, []) (by simp) ?_ ?_
  ·have e2 : p ++ (a1 ++ a2) ++ [y] ++ q = p ++ a1 ++ a2 ++ y :: ([] ++ q) := by simp
   rw [e2, ← hM]
   simp only [Nat.add_assoc]
   exact (sR [] [])
  ·rintro ⟨u1, u2⟩ hu
   simp only at hu ⊢
   rcases B0f u1 with rfl | ⟨u1, z, rfl⟩
   ·rw [List.nil_append] at hu
    subst hu
    have d3 : decide (p.length + a1.length < p.length + a1.length) = false := decide_eq_false (by omega)
    simp only [List.append_nil, List.length_nil, Nat.add_zero]
    simp only [go_sem, N1, d3]
    refine wO [] [] ?_
    simp only [go_sem, J3, exists_eq_left', Option.some.injEq]
    simp [G1, G2, B1, AV.asOwn, B3, A9, AV.isNil, J8, B6, B4, B8, ren]
   ·have hal : a2.length = u1.length + 1 + u2.length := by rw [hu]; simp; omega
    have hl1 : (u1 ++ [z]).length = u1.length + 1 := by simp
    simp only [hl1]
    have d3 : decide (p.length + a1.length < p.length + a1.length + (u1.length + 1)) = true := decide_eq_true (by omega)
    obtain ⟨g1, g2, g3, g4, _⟩ := B6c (p ++ a1 ++ u1) z y (u2 ++ q) (n := p.length + a1.length + u1.length) (m := p.length + a1.length + (u1.length + 1)) (by simp; omega) (by omega)
    have e2 : p ++ a1 ++ (u1 ++ [z]) ++ y :: (u2 ++ q) = p ++ a1 ++ u1 ++ z :: y :: (u2 ++ q) := by simp
    rw [e2]
    have em : IntKind.i64.wrap (((p.length + a1.length + (u1.length + 1) : Nat) : Int) - 1) = ((p.length + a1.length + u1.length : Nat) : Int) := by rw [A5 (by omega) (by omega)]; omega
    have ia : ((p.length + a1.length + u1.length : Nat) : Int) < (L : Int) := by omega
    have ib : ((p.length + a1.length + (u1.length + 1) : Nat) : Int) < (L : Int) := by omega
    have hnx : (((p ++ a1 ++ u1 ++ z :: y :: (u2 ++ q)).map A8).set (p.length + a1.length + (u1.length + 1)) [.v (.string (D6 (z).1.1)), .v (.int .i64 (z).1.2.1), .v (.int .i64 (z).1.2.2.1), .sl 2 ((z).1.2.2.2.map D7), .v (.bool (z).2.isNone), .v (.int .i64 ((z).2.getD 0))]).set (p.length + a1.length + u1.length) [.v (.string (D6 (y).1.1)), .v (.int .i64 (y).1.2.1), .v (.int .i64 (y).1.2.2.1), .sl 2 ((y).1.2.2.2.map D7), .v (.bool (y).2.isNone), .v (.int .i64 ((y).2.getD 0))] = (p ++ a1 ++ u1 ++ y :: z :: (u2 ++ q)).map A8 := by
     rw [← g4, List.map_set, List.map_set]; rfl
    have h3 : (((p ++ a1 ++ u1 ++ z :: y :: (u2 ++ q)).map A8).set (p.length + a1.length + (u1.length + 1)) [.v (.string (D6 (z).1.1)), .v (.int .i64 (z).1.2.1), .v (.int .i64 (z).1.2.2.1), .sl 2 ((z).1.2.2.2.map D7), .v (.bool (z).2.isNone), .v (.int .i64 ((z).2.getD 0))])[p.length + a1.length + u1.length]? = some [.v (.string (D6 (z).1.1)), .v (.int .i64 (z).1.2.1), .v (.int .i64 (z).1.2.2.1), .sl 2 ((z).1.2.2.2.map D7), .v (.bool (z).2.isNone), .v (.int .i64 ((z).2.getD 0))] := by
     have := congrArg (Option.map A8) g3
     rw [← List.getElem?_map, List.map_set] at this
     exact this
    have h1 : ((p ++ a1 ++ u1 ++ z :: y :: (u2 ++ q)).map A8)[p.length + a1.length + u1.length]? = some [.v (.string (D6 (z).1.1)), .v (.int .i64 (z).1.2.1), .v (.int .i64 (z).1.2.2.1), .sl 2 ((z).1.2.2.2.map D7), .v (.bool (z).2.isNone), .v (.int .i64 ((z).2.getD 0))] := by rw [List.getElem?_map, g1]; rfl
    have h2 : ((p ++ a1 ++ u1 ++ z :: y :: (u2 ++ q)).map A8)[p.length + a1.length + (u1.length + 1)]? = some [.v (.string (D6 (y).1.1)), .v (.int .i64 (y).1.2.1), .v (.int .i64 (y).1.2.2.1), .sl 2 ((y).1.2.2.2.map D7), .v (.bool (y).2.isNone), .v (.int .i64 ((y).2.getD 0))] := by rw [List.getElem?_map, g2]; rfl
    generalize hdm : List.map A8 (p ++ a1 ++ u1 ++ z :: y :: (u2 ++ q)) = dm at *
    simp only [go_sem, N1, d3, em, ia, ib, h1, h2, h3, hnx]
    refine C3 (u1, z :: u2) (by simp) (by simp only; rw [hu]; simp) ?_
    exact (sR [] [])

set_option maxHeartbeats 4000000 in
theorem B14 (io : List Nat) (Q : Exit → St → Prop) (k : List Kt) (env : List (Nat × AV)) (g L : Nat) (r : Bool) (cdn : Bool) (P M N P1 E1 H Z0 : Nat) (D1 D2 D3 D4 : List (F4 × Option Int)) (v1 v2 w1 w2 : Bool)
  (e0 : lk 0 env = .own 0 6 0 L r) (e1 : lk 1 env = I P) (e2 : lk 2 env = I M) (e3 : lk 3 env = I N) (e4 : lk 4 env = .fn g [] [.ptr 1 0]) (e18 : lk 18 env = I H) (e19 : lk 19 env = I Z0) (e20 : lk 20 env = I P1)
  (ee : IntKind.i64.wrap ((Z0 : Int) - (P1 : Int)) = (E1 : Int))
  (x1 : decide (P1 < M) = !v2) (x2 : decide (M < E1) = !w1) (x3 : decide (P < P1) = !v1) (x4 : decide (P1 < H) = !w1) (x5 : decide (H < E1) = !v2) (x6 : decide (E1 < N) = !w2)
  (hr : v2 = false → w1 = false → Meets Tryz.prog E0 H3 [.own 0 6 0 L r, I P1, I M, I E1, .fn g [] [.ptr 1 0]] [(0, .row 6 true (D1.map A8)), (1, .box [Bo cdn])] (.tp []) [(0, .row 6 true (D2.map A8)), (1, .box [Bo cdn])])
  (i1 : v1 = false → w1 = false → Meets Tryz.prog E0 B7 [.own 0 6 0 L r, I P, I P1, I H, .fn g [] [.ptr 1 0]] [(0, .row 6 true (D2.map A8)), (1, .box [Bo cdn])] (.tp []) [(0, .row 6 true (D3.map A8)), (1, .box [Bo cdn])])
  (i2 : v2 = false → w2 = false → Meets Tryz.prog E0 B7 [.own 0 6 0 L r, I H, I E1, I N, .fn g [] [.ptr 1 0]] [(0, .row 6 true (D3.map A8)), (1, .box [Bo cdn])] (.tp []) [(0, .row 6 true (D4.map A8)), (1, .box [Bo cdn])])
  (r1 : (v2 || w1) = true → D1 = D2) (r2 : (v1 || w1) = true → D2 = D3) (r3 : (v2 || w2) = true → D3 = D4)
  (hend : ∀ env tl, B Tryz.prog E0 io Q k .normal env ((0, .row 6 true (D4.map A8)) :: (1, .box [Bo cdn]) :: tl)) :
  W Tryz.prog E0 io Q E8 k env [(0, .row 6 true (D1.map A8)), (1, .box [Bo cdn])] := by
 cases v2 <;> cases w1 <;> simp only [Bool.not_true, Bool.not_false] at x1 x2 x4 x5
 case' false.false =>
  simp only [go_sem, E8, e0, e1, e2, e3, e4, e18, e19, e20, ee, x1, x2]
  refine oB (hr rfl rfl) ?_
  simp only [go_sem]
 case' false.true =>
  have := r1 rfl; subst this
  simp only [go_sem, E8, e0, e1, e2, e3, e4, e18, e19, e20, ee, x1, x2]
 case' true.false =>
  have := r1 rfl; subst this
  simp only [go_sem, E8, e0, e1, e2, e3, e4, e18, e19, e20, ee, x1, x2]
 case' true.true =>
  have := r1 rfl; subst this
  simp only [go_sem, E8, e0, e1, e2, e3, e4, e18, e19, e20, ee, x1, x2]
 all_goals
  cases v1 <;> simp only [Bool.not_true, Bool.not_false] at x3
  all_goals
   (try (have r2' := r2 rfl; subst r2'))
   simp only [go_sem, x3, x4]
   try (refine oB (i1 rfl rfl) ?_; simp only [go_sem])
  all_goals
   cases w2 <;> simp only [Bool.not_true, Bool.not_false] at x6
   all_goals
    (try (have r3' := r3 rfl; subst r3'))
    simp only [go_sem, x5, x6]
    try (refine oB (i2 rfl rfl) ?_; simp only [go_sem])
   all_goals exact hend _ _

set_option maxHeartbeats 4000000 in
theorem B30 (g L : Nat) (r : Bool) (cdn : Bool) (c : (F4 × Option Int) → (F4 × Option Int) → Int) (D : (F4 × Option Int) → Prop) (hc : ∀ x y, D x → D y → Meets Tryz.prog E0 g ([(.ag [Q5 (D6 (x).1.1), I (x).1.2.1, I (x).1.2.2.1, M6 (x).1.2.2.2, Bo (x).2.isNone, I ((x).2.getD 0)]), (.ag [Q5 (D6 (y).1.1), I (y).1.2.1, I (y).1.2.2.1, M6 (y).1.2.2.2, Bo (y).2.isNone, I ((y).2.getD 0)])] ++ [.ptr 1 0]) [(1, .box [Bo cdn])] (I (c x y)) [(1, .box [Bo cdn])]) (hO : Below3 (A7 c))
  (p a b q : List (F4 × Option Int)) (ha1 : a.length ≠ 1) (ha0 : a ≠ []) (hb1 : b.length ≠ 1) (hb0 : b ≠ []) (ha : ∀ x ∈ a, D x) (hb : ∀ x ∈ b, D x) (sa : Srt (A7 c) a) (sb : Srt (A7 c) b) (hL : L = (p ++ a ++ b ++ q).length) (hLb : L ≤ 281474976710656)
  (ih : ∀ p' a' b' q' : List (F4 × Option Int), a'.length + b'.length < a.length + b.length → a' ≠ [] → b' ≠ [] → (∀ x ∈ a', D x) → (∀ x ∈ b', D x) → Srt (A7 c) a' → Srt (A7 c) b' → L = (p' ++ a' ++ b' ++ q').length →
   Meets Tryz.prog E0 B7 [.own 0 6 0 L r, I p'.length, I (p'.length + a'.length : Nat), I (p'.length + a'.length + b'.length : Nat), .fn g [] [.ptr 1 0]] [(0, .row 6 true ((p' ++ a' ++ b' ++ q').map A8)), (1, .box [Bo cdn])] (.tp []) [(0, .row 6 true ((p' ++ mrg (A7 c) a' b' ++ q').map A8)), (1, .box [Bo cdn])]) :
  Meets Tryz.prog E0 B7 [.own 0 6 0 L r, I p.length, I (p.length + a.length : Nat), I (p.length + a.length + b.length : Nat), .fn g [] [.ptr 1 0]] [(0, .row 6 true ((p ++ a ++ b ++ q).map A8)), (1, .box [Bo cdn])] (.tp []) [(0, .row 6 true ((p ++ mrg (A7 c) a b ++ q).map A8)), (1, .box [Bo cdn])] := by
 have hLs : L = p.length + a.length + b.length + q.length := by rw [hL]; simp only [List.length_append]
 obtain ⟨P, hP⟩ : ∃ P, p.length = P := ⟨_, rfl⟩
 obtain ⟨M, hM⟩ : ∃ M, P + a.length = M := ⟨_, rfl⟩
 obtain ⟨N, hN⟩ : ∃ N, M + b.length = N := ⟨_, rfl⟩
 rw [hP] at hLs ⊢
 rw [hM, hN]
 have ha0' : 0 < a.length := List.length_pos_iff.2 ha0
 have hb0' : 0 < b.length := List.length_pos_iff.2 hb0
 obtain ⟨h, hh⟩ : ∃ h, (a.length + b.length) / 2 = h := ⟨_, rfl⟩
 refine O3 (by simp) (C2 (by simp [B5, AV.ids, A4]) (by simp [Ob.live, Ob.ids, A4, B5, AV.ids])) (C2 (by simp [B5, AV.ids, A4]) (by simp [Ob.live, Ob.ids, A4, B5, AV.ids])) (by simp [A4]) (by simp [A4]) ?_
 have e1 : IntKind.i64.wrap ((M : Int) - (P : Int)) = (a.length : Int) := C6d hM.symm (by omega)
 have d1 : decide ((a.length : Int) = 1) = false := decide_eq_false (by omega)
 have e2 : IntKind.i64.wrap ((N : Int) - (M : Int)) = (b.length : Int) := C6d hN.symm (by omega)
 have d2 : decide ((b.length : Int) = 1) = false := decide_eq_false (by omega)
 obtain ⟨q1, q2, q3⟩ := A0j (x := P) (y := N) (by omega)
 have q4 : (P + N) / 2 = P + h := by omega
 rw [q4] at q3
 have e3 : IntKind.i64.wrap (((P + h : Nat) : Int) + (M : Int)) = ((P + h + M : Nat) : Int) := C6x rfl (by omega)
 obtain ⟨Z, hZ⟩ : ∃ Z, P + h + M = Z + 1 := ⟨P + h + M - 1, by omega⟩
 have e4 : IntKind.i64.wrap (((P + h + M : Nat) : Int) - 1) = (Z : Int) := E11 hZ (by omega)
 obtain ⟨lo, hi, hlohi, hl1, hl2, hl3, hl4, hl5, hcase⟩ : ∃ lo hi : Nat, lo ≤ hi ∧ hi ≤ a.length ∧ hi ≤ h ∧ h ≤ lo + b.length ∧ Hid (lo = 0 ∨ h = lo + b.length) ∧ Hid (hi = a.length ∨ hi = h) ∧
   ((decide (P + h < M) = true ∧ IntKind.i64.wrap (((P + h + M : Nat) : Int) - (N : Int)) = ((P + lo : Nat) : Int) ∧ P + h = P + hi) ∨ (decide (P + h < M) = false ∧ P = P + lo ∧ M = P + hi)) := by
  by_cases hc : h < a.length
  ·refine ⟨h - b.length, h, by omega, by omega, by omega, by omega, .inr (by omega), .inr rfl, .inl ⟨decide_eq_true (by omega), ?_, rfl⟩⟩
   exact C6d (by omega) (by omega)
  ·exact ⟨0, a.length, by omega, by omega, by omega, by omega, .inl rfl, .inl rfl, .inr ⟨decide_eq_false (by omega), by omega, by omega⟩⟩
 have hML : M ≤ L := by clear d1 d2 e1 e2 q1 q2 q3 q4 e3 e4 hcase ha1 hb1; omega
 have hNL : N ≤ L := by clear d1 d2 e1 e2 q1 q2 q3 q4 e3 e4 hcase ha1 hb1; omega
 have hhn : h < a.length + b.length := by clear d1 d2 e1 e2 q1 q2 q3 q4 e3 e4 hcase ha1 hb1; omega
 have hh0 : 0 < h := by clear d1 d2 e1 e2 q1 q2 q3 q4 e3 e4 hcase; omega
 have hZb : Z + 1 ≤ 9007199254740992 := by clear d1 d2 e1 e2 q1 q2 q3 q4 e3 e4 hcase ha1 hb1; omega
 clear ha1 hb1 ha0' hb0' hLs
 rcases hcase with ⟨c1, c2, c3⟩ | ⟨c1, c2, c3⟩
 case' inl =>
  simp only [go_sem, G7, I1, N2, e1, d1, e2, d2, q1, q2, q3, e3, e4, c1, c2]
 case' inr =>
  simp only [go_sem, G7, I1, N2, e1, d1, e2, d2, q1, q2, q3, e3, e4, c1]
 all_goals
  refine C8 (fun s : Nat × Nat => s.2 - s.1) (fun s => lo ≤ s.1 ∧ s.1 ≤ s.2 ∧ s.2 ≤ hi ∧ Hid (s.1 = lo ∨ ∃ y z, a[s.1 - 1]? = some z ∧ b[h - s.1]? = some y ∧ A7 c y z = false) ∧ Hid (s.2 = hi ∨ ∃ y z, a[s.2]? = some z ∧ b[h - 1 - s.2]? = some y ∧ A7 c y z = true))
   (fun s => [(0, .own 0 6 0 L r), (1, I P), (2, I M), (3, I N), (4, .fn g [] [.ptr 1 0]), (18, I (P + h : Nat)), (19, I (P + h + M : Nat)), (20, I (P + s.1 : Nat)), (21, I (P + s.2 : Nat)), (22, I Z)])
   (fun s => [(0, .row 6 true ((p ++ a ++ b ++ q).map A8)), (1, .box [Bo cdn])]) (lo, hi) ⟨Nat.le_refl _, hlohi, Nat.le_refl _, .inl rfl, .inl rfl⟩ ?_ ?_
 case inl.refine_1 =>
  simp only [← c3]
  exact (sR [] [])
 case inr.refine_1 =>
  simp only [← c2, ← c3]
  exact (sR [] [])
 all_goals
  clear c1 c2 c3
  rintro ⟨s, t⟩ ⟨hs0, hst, ht0, hs, ht⟩
  simp only at hs0 hst ht0 hs ht ⊢
  by_cases hlt : s < t
  ·have d3 : decide (P + s < P + t) = true := decide_eq_true (Nat.add_lt_add_left hlt P)
   obtain ⟨h1, h2, h3⟩ := A0j (x := P + s) (y := P + t) (sy5 hlt (Nat.le_trans ht0 hl1) hM (Nat.le_trans hML hLb))
   rw [sy2] at h3
   obtain ⟨hk1, hk2⟩ := sy3 hlt
   generalize (s + t) / 2 = k at *
   have hka : k < a.length := Nat.lt_of_lt_of_le hk2 (Nat.le_trans ht0 hl1)
   have hkh : k < h := Nat.lt_of_lt_of_le hk2 (Nat.le_trans ht0 hl2)
   have hlk : lo ≤ k := Nat.le_trans hs0 hk1
   have hkb := sy1 hlk hkh hl3
   obtain ⟨z, hz, hzm⟩ := A6r hka
   obtain ⟨y, hy, hym⟩ := A6r hkb
   have hcc := hc y z (hb y hym) (ha z hzm)
   have g1 : ((p ++ a ++ b ++ q).map A8)[M + (h - 1 - k)]? = some [.v (.string (D6 (y).1.1)), .v (.int .i64 (y).1.2.1), .v (.int .i64 (y).1.2.2.1), .sl 2 ((y).1.2.2.2.map D7), .v (.bool (y).2.isNone), .v (.int .i64 ((y).2.getD 0))] := by rw [List.getElem?_map, C7l (p := p) (a := a) (b := b) (q := q) (n := M + (h - 1 - k)) hy (by rw [hP, hM])]; rfl
   have g2 : ((p ++ a ++ b ++ q).map A8)[P + k]? = some [.v (.string (D6 (z).1.1)), .v (.int .i64 (z).1.2.1), .v (.int .i64 (z).1.2.2.1), .sl 2 ((z).1.2.2.2.map D7), .v (.bool (z).2.isNone), .v (.int .i64 ((z).2.getD 0))] := by rw [List.getElem?_map, C7k (p := p) (a := a) (b := b) (q := q) (n := P + k) hz (by rw [hP])]; rfl
   have ea : IntKind.i64.wrap ((Z : Int) - ((P + k : Nat) : Int)) = ((M + (h - 1 - k) : Nat) : Int) := C6d (sy4 hZ hkh) (Nat.le_of_succ_le hZb)
   have ia : ((M + (h - 1 - k) : Nat) : Int) < (L : Int) := sy6 hkb hN hNL
   have ib : ((P + k : Nat) : Int) < (L : Int) := sy6 hka hM hML
   have ek : IntKind.i64.wrap (((P + k : Nat) : Int) + 1) = ((P + (k + 1) : Nat) : Int) := E0y rfl (by clear hZ hZb hN hNL hh hhn hl1 hl2 hl3 hlk hkb hk1 hk2 hs0 hst ht0 hlt; omega)
   generalize hdm : (p ++ a ++ b ++ q).map A8 = dm at *
   cases hl2 : decide (c y z < 0)
   ·have hnew : Hid (k + 1 = lo ∨ ∃ y z, a[k + 1 - 1]? = some z ∧ b[h - (k + 1)]? = some y ∧ A7 c y z = false) :=
     .inr ⟨y, z, hz, by rw [sy7 hkh]; exact hy, hl2⟩
    simp only [go_sem, I0, d3, h1, h2, h3, ea, ia, ib, g1, g2]
    refine A76 (hcc) (by simp [A4, A9]) (by simp [A4]) (by simp [A4]) ?_
    simp only [go_sem, hl2, ek]
    exact C3 (k + 1, t) (Nat.sub_lt_sub_left hlt (Nat.lt_succ_of_le hk1)) ⟨Nat.le_succ_of_le hlk, hk2, ht0, hnew, ht⟩ (sR [] [])
   ·have hnew : Hid (k = hi ∨ ∃ y z, a[k]? = some z ∧ b[h - 1 - k]? = some y ∧ A7 c y z = true) := .inr ⟨y, z, hz, hy, hl2⟩
    simp only [go_sem, I0, d3, h1, h2, h3, ea, ia, ib, g1, g2]
    refine A76 (hcc) (by simp [A4, A9]) (by simp [A4]) (by simp [A4]) ?_
    simp only [go_sem, hl2]
    exact C3 (s, k) (Nat.sub_lt_sub_right hk1 hk2) ⟨hs0, hk1, Nat.le_trans (Nat.le_of_lt hk2) ht0, hs, hnew⟩ (sR [] [])
  ·obtain rfl : s = t := Nat.le_antisymm hst (Nat.not_lt.1 hlt)
   have d3 : decide (P + s < P + s) = false := decide_eq_false (Nat.lt_irrefl _)
   have hsh : s ≤ h := Nat.le_trans ht0 hl2
   obtain ⟨a1, a2, rfl, rfl⟩ := A1c (Nat.le_trans ht0 hl1)
   obtain ⟨b1, b2, rfl, hu⟩ := A1c (sy8 hs0 hl3)
   have hal : (a1 ++ a2).length = a1.length + a2.length := List.length_append
   have hbl : (b1 ++ b2).length = b1.length + b2.length := List.length_append
   have hab : a1.length + b1.length = h := by rw [hu]; exact Nat.add_sub_cancel' hsh
   have hmrg : mrg (A7 c) (a1 ++ a2) (b1 ++ b2) = mrg (A7 c) a1 b1 ++ mrg (A7 c) a2 b2 := D4f hO sa sb (m := h) hab (hl4.imp id fun e => e.trans (by rw [hbl])) (hl5.imp (fun e => e.trans hal) id) hs ht
   rw [hmrg]
   have ee : IntKind.i64.wrap (((P + h + M : Nat) : Int) - ((P + a1.length : Nat) : Int)) = ((M + b1.length : Nat) : Int) := C6d (sy9 hu hsh) (by rw [hZ]; exact hZb)
   rw [hal] at hM hhn
   rw [hbl] at hN hhn
   have l1 : (mrg (A7 c) a1 b1).length = h := (C0o _ _ _).trans hab
   have sa' := List.pairwise_append.1 sa
   have sb' := List.pairwise_append.1 sb
   clear hs ht hmrg hl4 hl5 e1 d1 e2 d2 q1 q2 q3 q4 hlohi hlt hst hs0 ht0 hl1 hl2 hl3 hZ hZb e3 e4 hh sa sb hsh hu
   have y1 : M = P + a1.length + a2.length := by rw [← hM, Nat.add_assoc]
   have y2 : P + h = P + a1.length + b1.length := by rw [← hab, Nat.add_assoc]
   have y3 : M + b1.length = P + h + a2.length := by clear hNL hLb hN hhn; omega
   have y4 : N = M + b1.length + b2.length := by rw [← hN, Nat.add_assoc]
   have x1 : decide (P + a1.length < M) = !a2.isEmpty := (dlt y1).trans A43
   have x2 : decide (M < M + b1.length) = !b1.isEmpty := (dlt rfl).trans A43
   have x3 : decide (P < P + a1.length) = !a1.isEmpty := (dlt rfl).trans A43
   have x4 : decide (P + a1.length < P + h) = !b1.isEmpty := (dlt y2).trans A43
   have x5 : decide (P + h < M + b1.length) = !a2.isEmpty := (dlt y3).trans A43
   have x6 : decide (M + b1.length < N) = !b2.isEmpty := (dlt y4).trans A43
   have hr : a2 ≠ [] → b1 ≠ [] → Meets Tryz.prog E0 H3 [.own 0 6 0 L r, I (P + a1.length : Nat), I M, I (M + b1.length : Nat), .fn g [] [.ptr 1 0]] [(0, .row 6 true ((p ++ (a1 ++ a2) ++ (b1 ++ b2) ++ q).map A8)), (1, .box [Bo cdn])] (.tp []) [(0, .row 6 true ((p ++ a1 ++ b1 ++ (a2 ++ b2 ++ q)).map A8)), (1, .box [Bo cdn])] := by
    intro n1 n2
    have := B0x g L r cdn (p ++ a1) a2 b1 (b2 ++ q) n1 n2 (by rw [hL]; simp) hLb
    rw [show (p ++ a1).length = P + a1.length by simp [hP], ← y1] at this
    rw [show p ++ (a1 ++ a2) ++ (b1 ++ b2) ++ q = p ++ a1 ++ a2 ++ b1 ++ (b2 ++ q) by simp, show p ++ a1 ++ b1 ++ (a2 ++ b2 ++ q) = p ++ a1 ++ b1 ++ a2 ++ (b2 ++ q) by simp]
    exact this
   have i1 : a1 ≠ [] → b1 ≠ [] → Meets Tryz.prog E0 B7 [.own 0 6 0 L r, I P, I (P + a1.length : Nat), I (P + h : Nat), .fn g [] [.ptr 1 0]] [(0, .row 6 true ((p ++ a1 ++ b1 ++ (a2 ++ b2 ++ q)).map A8)), (1, .box [Bo cdn])] (.tp []) [(0, .row 6 true ((p ++ mrg (A7 c) a1 b1 ++ (a2 ++ b2 ++ q)).map A8)), (1, .box [Bo cdn])] := by
    intro n1 n2
    have := ih p a1 b1 (a2 ++ b2 ++ q) (by rw [hab, hal, hbl]; exact hhn) n1 n2 (fun x hx => ha x (by simp [hx])) (fun x hx => hb x (by simp [hx])) sa'.1 sb'.1 (hL.trans (D0t ..))
    rw [hP, ← y2] at this
    exact this
   have i2 : a2 ≠ [] → b2 ≠ [] → Meets Tryz.prog E0 B7 [.own 0 6 0 L r, I (P + h : Nat), I (M + b1.length : Nat), I N, .fn g [] [.ptr 1 0]] [(0, .row 6 true ((p ++ mrg (A7 c) a1 b1 ++ (a2 ++ b2 ++ q)).map A8)), (1, .box [Bo cdn])] (.tp []) [(0, .row 6 true ((p ++ (mrg (A7 c) a1 b1 ++ mrg (A7 c) a2 b2) ++ q).map A8)), (1, .box [Bo cdn])] := by
    intro n1 n2
    have n3 := List.length_pos_iff.2 n1
    have n4 := List.length_pos_iff.2 n2
    have := ih (p ++ mrg (A7 c) a1 b1) a2 b2 q (by rw [hal, hbl]; clear hNL hLb hN hM y1 y2 y3 y4 hhn; omega) n1 n2 (fun x hx => ha x (by simp [hx])) (fun x hx => hb x (by simp [hx])) sa'.2.1 sb'.2.1 (hL.trans (C8b (A7 c) ..))
    rw [show (p ++ mrg (A7 c) a1 b1).length = P + h by rw [List.length_append, hP, l1], ← y3, ← y4] at this
    rw [show p ++ mrg (A7 c) a1 b1 ++ (a2 ++ b2 ++ q) = p ++ mrg (A7 c) a1 b1 ++ a2 ++ b2 ++ q by simp, show p ++ (mrg (A7 c) a1 b1 ++ mrg (A7 c) a2 b2) ++ q = p ++ mrg (A7 c) a1 b1 ++ mrg (A7 c) a2 b2 ++ q by simp]
    exact this
   have r1 : a2 = [] ∨ b1 = [] → p ++ (a1 ++ a2) ++ (b1 ++ b2) ++ q = p ++ a1 ++ b1 ++ (a2 ++ b2 ++ q) := by rintro (e | e) <;> simp [e]
   have r2 : a1 = [] ∨ b1 = [] → p ++ a1 ++ b1 ++ (a2 ++ b2 ++ q) = p ++ mrg (A7 c) a1 b1 ++ (a2 ++ b2 ++ q) := fun e => by rw [B9s _ e]; simp
   have r3 : a2 = [] ∨ b2 = [] → p ++ mrg (A7 c) a1 b1 ++ (a2 ++ b2 ++ q) = p ++ (mrg (A7 c) a1 b1 ++ mrg (A7 c) a2 b2) ++ q := fun e => by rw [B9s (a := a2) _ e]; simp
   have E : ∀ {l : List (F4 × Option Int)}, l.isEmpty = true → l = [] := List.isEmpty_iff.1
   have NE : ∀ {l : List (F4 × Option Int)}, l.isEmpty = false → l ≠ [] := fun h e => by rw [e] at h; cases h
   clear ih sa' sb' hL hLb ha hb hc
   simp only [go_sem, I0, d3]
   refine B14 _ _ _ _ g L r cdn P M N (P + a1.length) (M + b1.length) (P + h) (P + h + M) (p ++ (a1 ++ a2) ++ (b1 ++ b2) ++ q) _ _ _ a1.isEmpty a2.isEmpty b1.isEmpty b2.isEmpty rfl rfl rfl rfl rfl rfl rfl rfl ee x1 x2 x3 x4 x5 x6
    (fun h1 h2 => hr (NE h1) (NE h2)) (fun h1 h2 => i1 (NE h1) (NE h2)) (fun h1 h2 => i2 (NE h1) (NE h2)) (fun h => r1 ((Bool.or_eq_true_iff.1 h).imp E E)) (fun h => r2 ((Bool.or_eq_true_iff.1 h).imp E E)) (fun h => r3 ((Bool.or_eq_true_iff.1 h).imp E E)) (fun env tl => ?_)
   simp only [go_sem]
   refine wO [] [] ?_
   simp only [go_sem, J3, exists_eq_left', Option.some.injEq]
   simp [G1, G2, B1, AV.asOwn, B3, A9, AV.isNil, J8, B6, B4, B8, ren]

theorem A5o (g L : Nat) (r : Bool) (cdn : Bool) (c : (F4 × Option Int) → (F4 × Option Int) → Int) (D : (F4 × Option Int) → Prop) (hc : ∀ x y, D x → D y → Meets Tryz.prog E0 g ([(.ag [Q5 (D6 (x).1.1), I (x).1.2.1, I (x).1.2.2.1, M6 (x).1.2.2.2, Bo (x).2.isNone, I ((x).2.getD 0)]), (.ag [Q5 (D6 (y).1.1), I (y).1.2.1, I (y).1.2.2.1, M6 (y).1.2.2.2, Bo (y).2.isNone, I ((y).2.getD 0)])] ++ [.ptr 1 0]) [(1, .box [Bo cdn])] (I (c x y)) [(1, .box [Bo cdn])]) (hO : Below3 (A7 c)) (hLb : L ≤ 281474976710656) (n : Nat) :
  ∀ (p a b q : List (F4 × Option Int)), a.length + b.length = n → a ≠ [] → b ≠ [] → (∀ x ∈ a, D x) → (∀ x ∈ b, D x) → Srt (A7 c) a → Srt (A7 c) b → L = (p ++ a ++ b ++ q).length →
  Meets Tryz.prog E0 B7 [.own 0 6 0 L r, I p.length, I (p.length + a.length : Nat), I (p.length + a.length + b.length : Nat), .fn g [] [.ptr 1 0]] [(0, .row 6 true ((p ++ a ++ b ++ q).map A8)), (1, .box [Bo cdn])] (.tp []) [(0, .row 6 true ((p ++ mrg (A7 c) a b ++ q).map A8)), (1, .box [Bo cdn])] := by
 induction n using Nat.strongRecOn with
 | _ n ih =>
  intro p a b q hn ha0 hb0 ha hb sa sb hL
  by_cases h1 : a.length = 1
  ·obtain ⟨x, rfl⟩ := List.length_eq_one_iff.1 h1
   exact B31 g L r cdn c D hc hO p b q x (ha x (by simp)) hb sb hL hLb
  ·by_cases h2 : b.length = 1
   ·obtain ⟨y, rfl⟩ := List.length_eq_one_iff.1 h2
    exact B3j g L r cdn c D hc hO p a q y h1 ha0 (hb y (by simp)) ha sa hL hLb
   ·exact B30 g L r cdn c D hc hO p a b q h1 ha0 h2 hb0 ha hb sa sb hL hLb fun p' a' b' q' hlt => ih _ (by omega) p' a' b' q' rfl

theorem A9l {lt : (F4 × Option Int) → (F4 × Option Int) → Bool} (hO : Below3 lt) {s : Nat} {l : List (F4 × Option Int)} (h0 : 0 < s) (h : 2 * s ≤ l.length) : chk lt s l = F7 lt (l.take s) ++ F7 lt ((l.drop s).take s) ++ chk lt s (l.drop (2 * s)) ∧ mrg lt (F7 lt (l.take s)) (F7 lt ((l.drop s).take s)) = F7 lt (l.take (2 * s)) ∧ chk lt (2 * s) l = F7 lt (l.take (2 * s)) ++ chk lt (2 * s) (l.drop (2 * s)) := by
 refine ⟨?_, ?_, B18 lt (by omega) h⟩
 ·rw [B18 lt h0 (by omega), B18 lt h0 (l := l.drop s) (by rw [List.length_drop]; omega), List.drop_drop, show s + s = 2 * s by omega, List.append_assoc]
 ·rw [B9m hO, show l.take (2 * s) = l.take s ++ (l.drop s).take s by rw [show 2 * s = s + s by omega, List.take_add]]

theorem B1d {lt : (F4 × Option Int) → (F4 × Option Int) → Bool} (hO : Below3 lt) {s : Nat} {l : List (F4 × Option Int)} (h0 : 0 < s) (h1 : s < l.length) (h : l.length < 2 * s) : chk lt s l = F7 lt (l.take s) ++ F7 lt (l.drop s) ∧ mrg lt (F7 lt (l.take s)) (F7 lt (l.drop s)) = F7 lt l ∧ chk lt (2 * s) l = F7 lt l := by
 refine ⟨?_, ?_, A53 lt (by omega)⟩
 ·rw [B18 lt h0 (by omega), A53 lt (l := l.drop s) (by rw [List.length_drop]; omega)]
 ·rw [B9m hO, List.take_append_drop]

set_option maxHeartbeats 2000000 in
theorem B1f (g L : Nat) (r : Bool) (cdn : Bool) (c : (F4 × Option Int) → (F4 × Option Int) → Int) (D : (F4 × Option Int) → Prop) (hc : ∀ x y, D x → D y → Meets Tryz.prog E0 g ([(.ag [Q5 (D6 (x).1.1), I (x).1.2.1, I (x).1.2.2.1, M6 (x).1.2.2.2, Bo (x).2.isNone, I ((x).2.getD 0)]), (.ag [Q5 (D6 (y).1.1), I (y).1.2.1, I (y).1.2.2.1, M6 (y).1.2.2.2, Bo (y).2.isNone, I ((y).2.getD 0)])] ++ [.ptr 1 0]) [(1, .box [Bo cdn])] (I (c x y)) [(1, .box [Bo cdn])]) (hO : Below3 (A7 c)) (hLb : L ≤ 281474976710656)
  (l : List (F4 × Option Int)) (hL : L = l.length) (hD : ∀ x ∈ l, D x) :
  Meets Tryz.prog E0 K5 [.own 0 6 0 L r, I L, .fn g [] [.ptr 1 0]] [(0, .row 6 true (l.map A8)), (1, .box [Bo cdn])] (.tp []) [(0, .row 6 true ((F7 (A7 c) l).map A8)), (1, .box [Bo cdn])] := by
 refine X3 (by simp) (C2 (by simp [B5, AV.ids, A4]) (by simp [Ob.live, Ob.ids, A4, B5, AV.ids])) (C2 (by simp [B5, AV.ids, A4]) (by simp [Ob.live, Ob.ids, A4, B5, AV.ids])) (by simp [A4]) (by simp [A4]) ?_
 simp only [go_sem, O9]
 refine C8 (fun s : List (F4 × Option Int) × List (F4 × Option Int) => s.2.length) (fun s => s.1.length + s.2.length = L ∧ (∀ x ∈ s.2, x ∈ l) ∧ s.1 ++ chk (A7 c) 20 s.2 = chk (A7 c) 20 l)
  (fun s => [(0, .own 0 6 0 L r), (1, I L), (2, .fn g [] [.ptr 1 0]), (6, I 20), (7, I s.1.length), (8, I (s.1.length + 20 : Nat))])
  (fun s => [(0, .row 6 true ((s.1 ++ s.2).map A8)), (1, .box [Bo cdn])]) ([], l) ⟨by simp [hL], fun x h => h, rfl⟩ (sR [] []) ?_
 rintro ⟨dn, rs⟩ ⟨hs1, hs2, hs3⟩
 simp only at hs1 hs2 hs3 ⊢
 by_cases hlt : dn.length + 20 ≤ L
 ·have d1 : decide (dn.length + 20 ≤ L) = true := decide_eq_true hlt
  have hk : (rs.take 20).length = 20 := by rw [List.length_take]; omega
  have h := A2i g L r cdn c D hc dn (rs.take 20) (rs.drop 20) (fun x hx => hD x (hs2 x (List.mem_of_mem_take hx))) (by rw [List.append_assoc, List.take_append_drop, List.length_append, hs1]) hLb
  rw [hk, List.append_assoc, List.take_append_drop] at h
  rw [B18 _ (by decide) (by omega), ← List.append_assoc] at hs3
  have ei : IntKind.i64.wrap (((dn.length + 20 : Nat) : Int) + 20) = ((dn.length + 20 + 20 : Nat) : Int) := C6x (y := 20) rfl (by omega)
  simp only [go_sem, d1]
  refine oB (h) ?_
  simp only [go_sem, ei]
  refine C3 (dn ++ F7 (A7 c) (rs.take 20), rs.drop 20) (by simp only [List.length_drop]; omega) ⟨by simp only [List.length_append, O6, hk, List.length_drop]; omega, fun x hx => hs2 x (List.mem_of_mem_drop hx), hs3⟩ ?_
  have hl1 : (dn ++ F7 (A7 c) (rs.take 20)).length = dn.length + 20 := by rw [List.length_append, O6, hk]
  simp only [hl1]
  exact (sR [] [])
 ·have d1 : decide (dn.length + 20 ≤ L) = false := decide_eq_false hlt
  have h := A2i g L r cdn c D hc dn rs [] (fun x hx => hD x (hs2 x hx)) (by rw [List.append_nil, List.length_append, hs1]) hLb
  rw [hs1, List.append_nil, List.append_nil, ← A53 (A7 c) (show rs.length ≤ 20 by omega), hs3] at h
  clear hs3
  simp only [go_sem, d1]
  refine oB (h) ?_
  simp only [go_sem]
  refine C8 (fun s : Nat => L - s) (fun s => 0 < s ∧ s ≤ 2 * L + 20)
   (fun s => [(0, .own 0 6 0 L r), (1, I L), (2, .fn g [] [.ptr 1 0]), (6, I s)])
   (fun s => [(0, .row 6 true ((chk (A7 c) s l).map A8)), (1, .box [Bo cdn])]) 20 ⟨by decide, by omega⟩ (sR [] []) ?_
  clear h d1 hlt hs1 hs2
  clear dn rs
  rintro s ⟨hs0, hs1⟩
  by_cases hsl : s < L
  ·have d1 : decide (s < L) = true := decide_eq_true hsl
   have e2 : IntKind.i64.wrap ((2 : Int) * (s : Int)) = ((2 * s : Nat) : Int) := by rw [A5 (by omega) (by omega)]; omega
   have e2' : IntKind.i64.wrap ((s : Int) * (2 : Int)) = ((2 * s : Nat) : Int) := by rw [A5 (by omega) (by omega)]; omega
   simp only [go_sem, d1, e2]
   refine C8 (fun s : List (F4 × Option Int) × List (F4 × Option Int) => s.2.length) (fun t => t.1.length + t.2.length = L ∧ (∀ x ∈ t.2, x ∈ l) ∧ t.1 ++ chk (A7 c) (2 * s) t.2 = chk (A7 c) (2 * s) l)
    (fun t => [(0, .own 0 6 0 L r), (1, I L), (2, .fn g [] [.ptr 1 0]), (6, I s), (7, I t.1.length), (8, I (t.1.length + 2 * s : Nat))])
    (fun t => [(0, .row 6 true ((t.1 ++ chk (A7 c) s t.2).map A8)), (1, .box [Bo cdn])]) ([], l) ⟨by simp [hL], fun x h => h, rfl⟩ ?_ ?_
   ·simp only [List.length_nil, List.nil_append, Nat.zero_add]
    exact (sR [] [])
   rintro ⟨dn, rs⟩ ⟨hs1, hs2, hs3⟩
   simp only at hs1 hs2 hs3 ⊢
   by_cases hlt : dn.length + 2 * s ≤ L
   ·have d2 : decide (dn.length + 2 * s ≤ L) = true := decide_eq_true hlt
    obtain ⟨k1, k2, k3⟩ := A9l hO hs0 (l := rs) (by omega)
    have l1 : (F7 (A7 c) (rs.take s)).length = s := by rw [O6, List.length_take]; omega
    have l2 : (F7 (A7 c) ((rs.drop s).take s)).length = s := by rw [O6, List.length_take, List.length_drop]; omega
    have l3 : (F7 (A7 c) (rs.take (2 * s))).length = 2 * s := by rw [O6, List.length_take]; omega
    have n1 : F7 (A7 c) (rs.take s) ≠ [] := fun e => by rw [e, List.length_nil] at l1; omega
    have n2 : F7 (A7 c) ((rs.drop s).take s) ≠ [] := fun e => by rw [e, List.length_nil] at l2; omega
    have h := A5o g L r cdn c D hc hO hLb _ dn (F7 (A7 c) (rs.take s)) (F7 (A7 c) ((rs.drop s).take s)) (chk (A7 c) s (rs.drop (2 * s))) rfl n1 n2
     (fun x hx => hD x (hs2 x (List.mem_of_mem_take ((Y1 _ _ _).1 hx)))) (fun x hx => hD x (hs2 x (List.mem_of_mem_drop (List.mem_of_mem_take ((Y1 _ _ _).1 hx))))) (A3v hO _) (A3v hO _)
     (by simp only [List.length_append, l1, l2, C8p, List.length_drop]; omega)
    rw [l1, l2, k2, show dn ++ F7 (A7 c) (rs.take s) ++ F7 (A7 c) ((rs.drop s).take s) ++ chk (A7 c) s (rs.drop (2 * s)) = dn ++ chk (A7 c) s rs by rw [k1]; simp only [List.append_assoc], show dn.length + s + s = dn.length + 2 * s by omega] at h
    rw [k3, ← List.append_assoc] at hs3
    have e3 : IntKind.i64.wrap ((dn.length : Int) + (s : Int)) = ((dn.length + s : Nat) : Int) := C6x rfl (by omega)
    have e4 : IntKind.i64.wrap (((dn.length + 2 * s : Nat) : Int) + ((2 * s : Nat) : Int)) = ((dn.length + 2 * s + 2 * s : Nat) : Int) := C6x rfl (by omega)
    simp only [go_sem, d2, e3]
    refine oB (h) ?_
    simp only [go_sem, e2, e4]
    refine C3 (dn ++ F7 (A7 c) (rs.take (2 * s)), rs.drop (2 * s)) (by simp only [List.length_drop]; omega) ⟨by simp only [List.length_append, l3, List.length_drop]; omega, fun x hx => hs2 x (List.mem_of_mem_drop hx), hs3⟩ ?_
    have hl1 : (dn ++ F7 (A7 c) (rs.take (2 * s))).length = dn.length + 2 * s := by rw [List.length_append, l3]
    simp only [hl1]
    exact (sR [] [])
   ·have d2 : decide (dn.length + 2 * s ≤ L) = false := decide_eq_false hlt
    have e3 : IntKind.i64.wrap ((dn.length : Int) + (s : Int)) = ((dn.length + s : Nat) : Int) := C6x rfl (by omega)
    by_cases hl3 : dn.length + s < L
    ·have d3 : decide (dn.length + s < L) = true := decide_eq_true hl3
     obtain ⟨k1, k2, k3⟩ := B1d hO hs0 (l := rs) (by omega) (by omega)
     have l1 : (F7 (A7 c) (rs.take s)).length = s := by rw [O6, List.length_take]; omega
     have l2 : (F7 (A7 c) (rs.drop s)).length = rs.length - s := by rw [O6, List.length_drop]
     have n1 : F7 (A7 c) (rs.take s) ≠ [] := fun e => by rw [e, List.length_nil] at l1; omega
     have n2 : F7 (A7 c) (rs.drop s) ≠ [] := fun e => by rw [e, List.length_nil] at l2; omega
     have h := A5o g L r cdn c D hc hO hLb _ dn (F7 (A7 c) (rs.take s)) (F7 (A7 c) (rs.drop s)) [] rfl n1 n2
      (fun x hx => hD x (hs2 x (List.mem_of_mem_take ((Y1 _ _ _).1 hx)))) (fun x hx => hD x (hs2 x (List.mem_of_mem_drop ((Y1 _ _ _).1 hx)))) (A3v hO _) (A3v hO _)
      (by simp only [List.length_append, l1, l2, List.length_nil]; omega)
     rw [k3] at hs3
     rw [l1, l2, k2, List.append_nil, List.append_nil, hs3, show dn ++ F7 (A7 c) (rs.take s) ++ F7 (A7 c) (rs.drop s) = dn ++ chk (A7 c) s rs by rw [k1]; simp only [List.append_assoc], show dn.length + s + (rs.length - s) = L by omega] at h
     simp only [go_sem, d2, e3, d3]
     refine oB (h) ?_
     simp only [go_sem, e2']
     exact C3 (2 * s) (by first | omega | (simp only; omega)) ⟨by omega, by omega⟩ (sR [] [])
    ·have d3 : decide (dn.length + s < L) = false := decide_eq_false hl3
     rw [A53 _ (by omega)] at hs3
     rw [A53 (A7 c) (s := s) (l := rs) (by omega), hs3]
     simp only [go_sem, d2, e3, d3, e2']
     exact C3 (2 * s) (by first | omega | (simp only; omega)) ⟨by omega, by omega⟩ (sR [] [])
  ·have d1 : decide (s < L) = false := decide_eq_false hsl
   rw [A53 (A7 c) (s := s) (by omega)]
   simp only [go_sem, d1]
   refine wO [] [] ?_
   simp only [go_sem, P3, exists_eq_left', Option.some.injEq]
   simp [G1, G2, B1, AV.asOwn, B3, A9, AV.isNil, J8, B6, B4, B8, ren]

theorem A7c (g L : Nat) (r : Bool) (cdn : Bool) (c : (F4 × Option Int) → (F4 × Option Int) → Int) (D : (F4 × Option Int) → Prop) (hc : ∀ x y, D x → D y → Meets Tryz.prog E0 g ([(.ag [Q5 (D6 (x).1.1), I (x).1.2.1, I (x).1.2.2.1, M6 (x).1.2.2.2, Bo (x).2.isNone, I ((x).2.getD 0)]), (.ag [Q5 (D6 (y).1.1), I (y).1.2.1, I (y).1.2.2.1, M6 (y).1.2.2.2, Bo (y).2.isNone, I ((y).2.getD 0)])] ++ [.ptr 1 0]) [(1, .box [Bo cdn])] (I (c x y)) [(1, .box [Bo cdn])]) (hO : Below3 (A7 c)) (hLb : L ≤ 281474976710656)
  (l : List (F4 × Option Int)) (hL : L = l.length) (hD : ∀ x ∈ l, D x) :
  Meets Tryz.prog E0 F3 [.own 0 6 0 L r, .fn g [] [.ptr 1 0]] [(0, .row 6 true (l.map A8)), (1, .box [Bo cdn])] (.tp []) [(0, .row 6 true ((F7 (A7 c) l).map A8)), (1, .box [Bo cdn])] := by
 refine N4 (by simp) (C2 (by simp [B5, AV.ids, A4]) (by simp [Ob.live, Ob.ids, A4, B5, AV.ids])) (C2 (by simp [B5, AV.ids, A4]) (by simp [Ob.live, Ob.ids, A4, B5, AV.ids])) (by simp [A4]) (by simp [A4]) ?_
 have h := B1f g L r cdn c D hc hO hLb l hL hD
 simp only [go_sem, H4]
 refine oB (h) ?_
 simp only [go_sem]
 refine wO [] [] ?_
 simp only [go_sem, H2, exists_eq_left', Option.some.injEq]
 simp [G1, G2, B1, AV.asOwn, B3, A9, AV.isNil, J8, B6, B4, B8, ren]

theorem A79 (g : Nat) (cdn : Bool) : Meets Tryz.prog E0 F8 [.t (.sl 6 []), I 0, I 0, .fn g [] [.ptr 1 0]] [(1, .box [Bo cdn])] (.tp []) [(1, .box [Bo cdn])] := by
 refine R7 (by simp) (C2 (by simp [B5, AV.ids, A4]) (by simp [Ob.live, Ob.ids, A4, B5, AV.ids])) (C2 (by simp [B5, AV.ids, A4]) (by simp [Ob.live, Ob.ids, A4, B5, AV.ids])) (by simp [A4]) (by simp [A4]) ?_
 have e1 : IntKind.i64.wrap (0 + 1) = 1 := by decide
 have d1 : decide ((1 : Int) < 0) = false := rfl
 simp only [go_sem, M1, e1]
 refine C8 (fun _ : Unit => 0) (fun _ => True) (fun _ => [(0, .t (.sl 6 [])), (1, I 0), (2, I 0), (3, .fn g [] [.ptr 1 0]), (8, I 1)]) (fun _ => [(1, .box [Bo cdn])]) () trivial (sR [] []) ?_
 intro _ _
 simp only [go_sem, d1]
 refine wO [] [] ?_
 simp only [go_sem, M2, exists_eq_left', Option.some.injEq]
 simp [G1, G2, B1, AV.asOwn, B3, A9, AV.isNil, J8, B6, B4, B8, ren]

theorem A9n (g : Nat) (cdn : Bool) : Meets Tryz.prog E0 K5 [.t (.sl 6 []), I 0, .fn g [] [.ptr 1 0]] [(1, .box [Bo cdn])] (.tp []) [(1, .box [Bo cdn])] := by
 refine X3 (by simp) (C2 (by simp [B5, AV.ids, A4]) (by simp [Ob.live, Ob.ids, A4, B5, AV.ids])) (C2 (by simp [B5, AV.ids, A4]) (by simp [Ob.live, Ob.ids, A4, B5, AV.ids])) (by simp [A4]) (by simp [A4]) ?_
 have h := A79 g cdn
 have d1 : decide ((20 : Int) ≤ 0) = false := rfl
 have d2 : decide ((20 : Int) < 0) = false := rfl
 simp only [go_sem, O9]
 refine C8 (fun _ : Unit => 0) (fun _ => True) (fun _ => [(0, .t (.sl 6 [])), (1, I 0), (2, .fn g [] [.ptr 1 0]), (6, I 20), (7, I 0), (8, I 20)]) (fun _ => [(1, .box [Bo cdn])]) () trivial (sR [] []) ?_
 intro _ _
 simp only [go_sem, d1]
 refine oB (h) ?_
 simp only [go_sem]
 refine C8 (fun _ : Unit => 0) (fun _ => True) (fun _ => [(0, .t (.sl 6 [])), (1, I 0), (2, .fn g [] [.ptr 1 0]), (6, I 20)]) (fun _ => [(1, .box [Bo cdn])]) () trivial (sR [] []) ?_
 intro _ _
 simp only [go_sem, d2]
 refine wO [] [] ?_
 simp only [go_sem, P3, exists_eq_left', Option.some.injEq]
 simp [G1, G2, B1, AV.asOwn, B3, A9, AV.isNil, J8, B6, B4, B8, ren]

theorem A6p (g : Nat) (cdn : Bool) : Meets Tryz.prog E0 F3 [.t (.sl 6 []), .fn g [] [.ptr 1 0]] [(1, .box [Bo cdn])] (.tp []) [(1, .box [Bo cdn])] := by
 refine N4 (by simp) (C2 (by simp [B5, AV.ids, A4]) (by simp [Ob.live, Ob.ids, A4, B5, AV.ids])) (C2 (by simp [B5, AV.ids, A4]) (by simp [Ob.live, Ob.ids, A4, B5, AV.ids])) (by simp [A4]) (by simp [A4]) ?_
 have h := A9n g cdn
 simp only [go_sem, H4]
 refine oB (h) ?_
 simp only [go_sem]
 refine wO [] [] ?_
 simp only [go_sem, H2, exists_eq_left', Option.some.injEq]
 simp [G1, G2, B1, AV.asOwn, B3, A9, AV.isNil, J8, B6, B4, B8, ren]

end Go.Proofs.YtgmpceijcdimkaaGreatDoor
