/- Texts of mine, many in one. No statement of the seat is proved here. -/
import Derived.Test.YtgmpceijcdimkaaGreatDoorPkB
import Derived.Test.YtgmpceijcdimkaaGreatDoorSxH
set_option linter.unusedSimpArgs false
set_option linter.unusedVariables false
namespace Go.Proofs.YtgmpceijcdimkaaGreatDoor
open Go Go.Sx

def lt_choose_measured (c : (Ser × Option Int) → (Ser × Option Int) → Int) (x y : (Ser × Option Int)) : Bool := decide (c x y < 0)

set_option maxHeartbeats 1000000 in
theorem f_insertion_choose_measured (g L : Nat) (r : Bool) (cdn : Bool) (c : (Ser × Option Int) → (Ser × Option Int) → Int) (D : (Ser × Option Int) → Prop) (hc : ∀ x y, D x → D y → Meets Tryz.prog E0 g ([(.ag [Str (toB (x).1.1), I (x).1.2.1, I (x).1.2.2.1, numL (x).1.2.2.2, Bo (x).2.isNone, I ((x).2.getD 0)]), (.ag [Str (toB (y).1.1), I (y).1.2.1, I (y).1.2.2.1, numL (y).1.2.2.2, Bo (y).2.isNone, I ((y).2.getD 0)])] ++ [.ptr 1 0]) [(1, .box [Bo cdn])] (I (c x y)) [(1, .box [Bo cdn])])
  (p m q : List (Ser × Option Int)) (hD : ∀ x ∈ m, D x) (hL : L = (p ++ m ++ q).length) (hb : L ≤ 281474976710656) :
  Meets Tryz.prog E0 n_slices_insertionSortCmpFunc_choose_measured [.own 0 6 0 L r, I p.length, I (p.length + m.length : Nat), .fn g [] [.ptr 1 0]] [(0, .row 6 true ((p ++ m ++ q).map row_choose_measured)), (1, .box [Bo cdn])] (.tp []) [(0, .row 6 true ((p ++ isrt (lt_choose_measured c) m ++ q).map row_choose_measured)), (1, .box [Bo cdn])] := by
 have hLs : L = p.length + m.length + q.length := by rw [hL]; simp only [List.length_append]
 obtain ⟨N, hN⟩ : ∃ N, p.length + m.length = N := ⟨_, rfl⟩
 rw [hN]
 refine m_slices_insertionSortCmpFunc_choose_measured (by simp) (shut_of (by simp [idsL, AV.ids, keysOf]) (by simp [Ob.live, Ob.ids, keysOf, idsL, AV.ids])) (shut_of (by simp [idsL, AV.ids, keysOf]) (by simp [Ob.live, Ob.ids, keysOf, idsL, AV.ids])) (by simp [keysOf]) (by simp [keysOf]) ?_
 have e1 : IntKind.i64.wrap ((p.length : Int) + 1) = ((p.length + 1 : Nat) : Int) := by rw [wrap_i64_of (by omega) (by omega)]; omega
 have e0 : p ++ m ++ q = p ++ isrt (lt_choose_measured c) (m.take 1) ++ m.drop 1 ++ q := by
  cases m with
  | nil => simp [isrt]
  | cons x m => simp [isrt, insR, insRev]
 simp only [go_sem, s_slices_insertionSortCmpFunc_choose_measured, e1]
 refine W_loop (fun k : Nat => m.length + 1 - k) (fun k => 1 ≤ k ∧ k ≤ m.length + 1 ∧ (k ≤ m.length ∨ (k = 1 ∧ m = [])))
  (fun k => [(0, .own 0 6 0 L r), (1, I p.length), (2, I N), (3, .fn g [] [.ptr 1 0]), (8, I (p.length + k : Nat))])
  (fun k => [(0, .row 6 true ((p ++ isrt (lt_choose_measured c) (m.take k) ++ m.drop k ++ q).map row_choose_measured)), (1, .box [Bo cdn])]) 1 ⟨Nat.le_refl _, by omega, ?_⟩ ?_ ?_
 ·cases m with
  | nil => exact .inr ⟨rfl, rfl⟩
  | cons x m => exact .inl (by simp)
 ·rw [e0]; exact (sR [] [])
 clear e0 e1
 rintro k ⟨hk1, hk2, hk3⟩
 by_cases hlt : k < m.length
 ·have d1 : decide (p.length + k < N) = true := decide_eq_true (by omega)
  have ei : IntKind.i64.wrap (((p.length + k : Nat) : Int) + 1) = ((p.length + (k + 1) : Nat) : Int) := by rw [wrap_i64_of (by omega) (by omega)]; omega
  obtain ⟨m1, x, m2, rfl, rfl⟩ := split_at1 hlt
  have t1 : (m1 ++ x :: m2).take m1.length = m1 := List.take_left
  have t2 : (m1 ++ x :: m2).drop m1.length = x :: m2 := List.drop_left
  have t3 : (m1 ++ x :: m2).take (m1.length + 1) = m1 ++ [x] := by rw [show m1 ++ x :: m2 = (m1 ++ [x]) ++ m2 by simp, List.take_left' (by simp)]
  have t4 : (m1 ++ x :: m2).drop (m1.length + 1) = m2 := by rw [show m1 ++ x :: m2 = (m1 ++ [x]) ++ m2 by simp, List.drop_left' (by simp)]
  have hx : D x := hD x (by simp)
  have hS : ∀ y ∈ isrt (lt_choose_measured c) m1, D y := fun y hy => hD y (by simp [(isrt_mem _ y m1).1 hy])
  have hSl := isrt_len (lt_choose_measured c) m1
  have hnext := isrt_snoc (lt_choose_measured c) m1 x
  rw [t1, t2]
  generalize hS0 : isrt (lt_choose_measured c) m1 = S at *
  have hml : (m1 ++ x :: m2).length = m1.length + 1 + m2.length := by simp; omega
  rw [hml] at hN hLs hk2 hk3 hlt ⊢
  simp only [go_sem, d1]
  refine W_loop (fun s : List (Ser × Option Int) × List (Ser × Option Int) => s.1.length) (fun s => s.1.length + s.2.length = m1.length ∧ (∀ y ∈ s.1, D y) ∧ insR (lt_choose_measured c) x s.1 ++ s.2 = isrt (lt_choose_measured c) (m1 ++ [x]))
   (fun s => [(0, .own 0 6 0 L r), (1, I p.length), (2, I N), (3, .fn g [] [.ptr 1 0]), (8, I (p.length + m1.length : Nat)), (9, I (p.length + s.1.length : Nat))])
   (fun s => [(0, .row 6 true ((p ++ s.1 ++ x :: (s.2 ++ m2 ++ q)).map row_choose_measured)), (1, .box [Bo cdn])]) (S, []) ⟨by simp; omega, hS, by rw [hnext]; simp⟩ ?_ ?_
  ·simp only [hSl, List.nil_append]
   rw [show p ++ S ++ x :: m2 ++ q = p ++ S ++ x :: (m2 ++ q) by simp]
   exact (sR [] [])
  rintro ⟨s1, s2⟩ ⟨hs1, hs2, hs3⟩
  simp only at hs1 hs2 hs3 ⊢
  rcases nil_or_snoc s1 with rfl | ⟨s1, y, rfl⟩
  ·have d2 : decide (p.length < p.length) = false := decide_eq_false (by omega)
   simp only [List.length_nil, Nat.add_zero]
   rw [insR_nil] at hs3
   have e2 : p ++ [] ++ x :: (s2 ++ m2 ++ q) = p ++ isrt (lt_choose_measured c) (m1 ++ [x]) ++ m2 ++ q := by rw [← hs3]; simp
   rw [e2]
   simp only [go_sem, d2, ei]
   refine rd_of (m1.length + 1) (by first | omega | (simp only; omega)) ⟨by omega, by omega, .inl (by omega)⟩ ?_
   simp only [t3, t4]
   exact (sR [] [])
  ·have hy : D y := hs2 y (by simp)
   have hcc := hc x y hx hy
   have hl1 : (s1 ++ [y]).length = s1.length + 1 := by simp
   rw [hl1] at hs1
   simp only [hl1]
   have d2 : decide (p.length < p.length + (s1.length + 1)) = true := decide_eq_true (by omega)
   rw [insR_snoc] at hs3
   obtain ⟨g1, g2, g3, g4, _⟩ := sw_step (p ++ s1) y x (s2 ++ m2 ++ q) (n := p.length + s1.length) (m := p.length + (s1.length + 1)) (by simp) (by omega)
   have ed : p ++ (s1 ++ [y]) ++ x :: (s2 ++ m2 ++ q) = p ++ s1 ++ y :: x :: (s2 ++ m2 ++ q) := by simp
   rw [ed]
   have em : IntKind.i64.wrap (((p.length + (s1.length + 1) : Nat) : Int) - 1) = ((p.length + s1.length : Nat) : Int) := by rw [wrap_i64_of (by omega) (by omega)]; omega
   have ia : ((p.length + s1.length : Nat) : Int) < (L : Int) := by omega
   have ib : ((p.length + (s1.length + 1) : Nat) : Int) < (L : Int) := by omega
   have hnx : (((p ++ s1 ++ y :: x :: (s2 ++ m2 ++ q)).map row_choose_measured).set (p.length + (s1.length + 1)) [.v (.string (toB (y).1.1)), .v (.int .i64 (y).1.2.1), .v (.int .i64 (y).1.2.2.1), .sl 2 ((y).1.2.2.2.map numT), .v (.bool (y).2.isNone), .v (.int .i64 ((y).2.getD 0))]).set (p.length + s1.length) [.v (.string (toB (x).1.1)), .v (.int .i64 (x).1.2.1), .v (.int .i64 (x).1.2.2.1), .sl 2 ((x).1.2.2.2.map numT), .v (.bool (x).2.isNone), .v (.int .i64 ((x).2.getD 0))] = (p ++ s1 ++ x :: y :: (s2 ++ m2 ++ q)).map row_choose_measured := by
    rw [← g4, List.map_set, List.map_set]; rfl
   have h3 : (((p ++ s1 ++ y :: x :: (s2 ++ m2 ++ q)).map row_choose_measured).set (p.length + (s1.length + 1)) [.v (.string (toB (y).1.1)), .v (.int .i64 (y).1.2.1), .v (.int .i64 (y).1.2.2.1), .sl 2 ((y).1.2.2.2.map numT), .v (.bool (y).2.isNone), .v (.int .i64 ((y).2.getD 0))])[p.length + s1.length]? = some [.v (.string (toB (y).1.1)), .v (.int .i64 (y).1.2.1), .v (.int .i64 (y).1.2.2.1), .sl 2 ((y).1.2.2.2.map numT), .v (.bool (y).2.isNone), .v (.int .i64 ((y).2.getD 0))] := by
    have := congrArg (Option.map row_choose_measured) g3
    rw [← List.getElem?_map, List.map_set] at this
    exact this
   have h1 : ((p ++ s1 ++ y :: x :: (s2 ++ m2 ++ q)).map row_choose_measured)[p.length + s1.length]? = some [.v (.string (toB (y).1.1)), .v (.int .i64 (y).1.2.1), .v (.int .i64 (y).1.2.2.1), .sl 2 ((y).1.2.2.2.map numT), .v (.bool (y).2.isNone), .v (.int .i64 ((y).2.getD 0))] := by rw [List.getElem?_map, g1]; rfl
   have h2 : ((p ++ s1 ++ y :: x :: (s2 ++ m2 ++ q)).map row_choose_measured)[p.length + (s1.length + 1)]? = some [.v (.string (toB (x).1.1)), .v (.int .i64 (x).1.2.1), .v (.int .i64 (x).1.2.2.1), .sl 2 ((x).1.2.2.2.map numT), .v (.bool (x).2.isNone), .v (.int .i64 ((x).2.getD 0))] := by rw [List.getElem?_map, g2]; rfl
   cases hlt2 : decide (c x y < 0)
   ·have hlt3 : lt_choose_measured c x y = false := hlt2
    rw [hlt3, if_neg (by decide)] at hs3
    have e2 : p ++ s1 ++ y :: x :: (s2 ++ m2 ++ q) = p ++ isrt (lt_choose_measured c) (m1 ++ [x]) ++ m2 ++ q := by rw [← hs3]; simp
    generalize (p ++ s1 ++ y :: x :: (s2 ++ m2 ++ q)) = d at *
    subst e2
    generalize h5 : List.map row_choose_measured (p ++ isrt (lt_choose_measured c) (m1 ++ [x]) ++ m2 ++ q) = dm at *
    simp only [go_sem, d2, hl1, em, ia, ib, h1, h2]
    refine Cl_cap (hcc) (by simp [keysOf, stoOf]) (by simp [keysOf]) (by simp [keysOf]) ?_
    simp only [go_sem, hlt2, ei]
    refine rd_of (m1.length + 1) (by first | omega | (simp only; omega)) ⟨by omega, by omega, .inl (by omega)⟩ ?_
    simp only [t3, t4, ← h5]
    exact (sR [] [])
   ·have hlt3 : lt_choose_measured c x y = true := hlt2
    rw [hlt3, if_pos rfl] at hs3
    generalize hdm : List.map row_choose_measured (p ++ s1 ++ y :: x :: (s2 ++ m2 ++ q)) = dm at *
    simp only [go_sem, d2, hl1, em, ia, ib, h1, h2]
    refine Cl_cap (hcc) (by simp [keysOf, stoOf]) (by simp [keysOf]) (by simp [keysOf]) ?_
    simp only [go_sem, hlt2, em, ia, ib, h1, h2, h3, hnx]
    refine rd_of (s1, y :: s2) (by simp) ⟨by simp only [List.length_cons]; omega, fun z hz => hs2 z (by simp [hz]), by rw [← hs3]; simp⟩ ?_
    simp only [List.cons_append]
    exact (sR [] [])
 ·have d1 : decide (p.length + k < N) = false := decide_eq_false (by omega)
  have t1 : m.take k = m := List.take_of_length_le (by omega)
  have t2 : m.drop k = [] := List.drop_of_length_le (by omega)
  rw [t1, t2, List.append_nil]
  simp only [go_sem, d1]
  refine wO [] [] ?_
  simp only [go_sem, r_slices_insertionSortCmpFunc_choose_measured, exists_eq_left', Option.some.injEq]
  simp [wkV, wkL, slTrees, AV.asOwn, rowPart, stoOf, AV.isNil, shA, rowsT, cellsT, cellT, ren]

end Go.Proofs.YtgmpceijcdimkaaGreatDoor
namespace Go.Proofs.YtgmpceijcdimkaaGreatDoor
open Go Go.Sx

theorem half_choose_measured {x y : Nat} (h : x + y ≤ 562949953421312) : IntKind.i64.wrap ((x : Int) + (y : Int)) = ((x + y : Nat) : Int) ∧ IntKind.u64.wrap ((x + y : Nat) : Int) = ((x + y : Nat) : Int) ∧ IntKind.i64.wrap (((x + y) / 2 ^ min 1 64 : Nat) : Int) = (((x + y) / 2 : Nat) : Int) := by
 rw [show 2 ^ min 1 64 = 2 from rfl]
 refine ⟨?_, ?_, ?_⟩
 ·rw [wrap_i64_of (by omega) (by omega)]; omega
 ·rw [wrap_u64]; omega
 ·rw [wrap_i64_of (by omega) (by omega)]

set_option maxHeartbeats 1000000 in
theorem f_sym1_choose_measured (g L : Nat) (r : Bool) (cdn : Bool) (c : (Ser × Option Int) → (Ser × Option Int) → Int) (D : (Ser × Option Int) → Prop) (hc : ∀ x y, D x → D y → Meets Tryz.prog E0 g ([(.ag [Str (toB (x).1.1), I (x).1.2.1, I (x).1.2.2.1, numL (x).1.2.2.2, Bo (x).2.isNone, I ((x).2.getD 0)]), (.ag [Str (toB (y).1.1), I (y).1.2.1, I (y).1.2.2.1, numL (y).1.2.2.2, Bo (y).2.isNone, I ((y).2.getD 0)])] ++ [.ptr 1 0]) [(1, .box [Bo cdn])] (I (c x y)) [(1, .box [Bo cdn])]) (hO : Below3 (lt_choose_measured c))
  (p b q : List (Ser × Option Int)) (x : (Ser × Option Int)) (hx : D x) (hb : ∀ y ∈ b, D y) (sb : Srt (lt_choose_measured c) b) (hL : L = (p ++ [x] ++ b ++ q).length) (hLb : L ≤ 281474976710656) :
  Meets Tryz.prog E0 n_slices_symMergeCmpFunc_choose_measured [.own 0 6 0 L r, I p.length, I (p.length + 1 : Nat), I (p.length + 1 + b.length : Nat), .fn g [] [.ptr 1 0]] [(0, .row 6 true ((p ++ [x] ++ b ++ q).map row_choose_measured)), (1, .box [Bo cdn])] (.tp []) [(0, .row 6 true ((p ++ mrg (lt_choose_measured c) [x] b ++ q).map row_choose_measured)), (1, .box [Bo cdn])] := by
 have hLs : L = p.length + 1 + b.length + q.length := by rw [hL]; simp only [List.length_append, List.length_cons, List.length_nil]
 refine m_slices_symMergeCmpFunc_choose_measured (by simp) (shut_of (by simp [idsL, AV.ids, keysOf]) (by simp [Ob.live, Ob.ids, keysOf, idsL, AV.ids])) (shut_of (by simp [idsL, AV.ids, keysOf]) (by simp [Ob.live, Ob.ids, keysOf, idsL, AV.ids])) (by simp [keysOf]) (by simp [keysOf]) ?_
 have e1 : IntKind.i64.wrap (((p.length + 1 : Nat) : Int) - (p.length : Int)) = 1 := by rw [wrap_i64_of (by omega) (by omega)]; omega
 have d1 : decide ((1 : Int) = 1) = true := rfl
 simp only [go_sem, s_slices_symMergeCmpFunc_choose_measured, e1, d1]
 refine W_loop (fun s : Nat × Nat => s.2 - s.1) (fun s => s.1 ≤ s.2 ∧ s.2 ≤ b.length ∧ (∀ i y, i + 1 = s.1 → b[i]? = some y → lt_choose_measured c y x = true) ∧ (∀ y, b[s.2]? = some y → lt_choose_measured c y x = false))
  (fun s => [(0, .own 0 6 0 L r), (1, I p.length), (4, .fn g [] [.ptr 1 0]), (10, I (p.length + 1 + s.1 : Nat)), (11, I (p.length + 1 + s.2 : Nat))])
  (fun s => [(0, .row 6 true ((p ++ [x] ++ b ++ q).map row_choose_measured)), (1, .box [Bo cdn])]) (0, b.length) ⟨Nat.zero_le _, Nat.le_refl _, by omega, fun y h => by simp at h⟩ (sR [] []) ?_
 rintro ⟨s, t⟩ ⟨hst, htb, hs, ht⟩
 simp only at hst htb hs ht ⊢
 by_cases hlt : s < t
 ·have d2 : decide (p.length + 1 + s < p.length + 1 + t) = true := decide_eq_true (by omega)
  obtain ⟨h1, h2, h3⟩ := half_choose_measured (x := p.length + 1 + s) (y := p.length + 1 + t) (by omega)
  have hh : (p.length + 1 + s + (p.length + 1 + t)) / 2 = p.length + 1 + (s + t) / 2 := by omega
  rw [hh] at h3
  have hk1 : s ≤ (s + t) / 2 := by omega
  have hk2 : (s + t) / 2 < t := by omega
  generalize (s + t) / 2 = k at *
  obtain ⟨y, hy, hym⟩ := get_some (show k < b.length by omega)
  have hcc := hc y x (hb y hym) hx
  have g1 : ((p ++ [x] ++ b ++ q).map row_choose_measured)[p.length + 1 + k]? = some [.v (.string (toB (y).1.1)), .v (.int .i64 (y).1.2.1), .v (.int .i64 (y).1.2.2.1), .sl 2 ((y).1.2.2.2.map numT), .v (.bool (y).2.isNone), .v (.int .i64 ((y).2.getD 0))] := by rw [List.getElem?_map, get_b (p := p) (a := [x]) (b := b) (q := q) (n := p.length + 1 + k) hy (by simp)]; rfl
  have g2 : ((p ++ [x] ++ b ++ q).map row_choose_measured)[p.length]? = some [.v (.string (toB (x).1.1)), .v (.int .i64 (x).1.2.1), .v (.int .i64 (x).1.2.2.1), .sl 2 ((x).1.2.2.2.map numT), .v (.bool (x).2.isNone), .v (.int .i64 ((x).2.getD 0))] := by rw [List.getElem?_map, get_a (p := p) (a := [x]) (b := b) (q := q) (n := p.length) (k := 0) (y := x) rfl rfl]; rfl
  have ia : ((p.length + 1 + k : Nat) : Int) < (L : Int) := by omega
  have ib : (p.length : Int) < (L : Int) := by omega
  have ek : IntKind.i64.wrap (((p.length + 1 + k : Nat) : Int) + 1) = ((p.length + 1 + (k + 1) : Nat) : Int) := by rw [wrap_i64_of (by omega) (by omega)]; omega
  generalize hdm : (p ++ [x] ++ b ++ q).map row_choose_measured = dm at *
  cases hl2 : decide (c y x < 0)
  ·have hl3 : lt_choose_measured c y x = false := hl2
   simp only [go_sem, s_slices_symMergeCmpFunc_choose_measured_b0, d2, h1, h2, h3, ia, ib, g1, g2]
   refine Cl_cap (hcc) (by simp [keysOf, stoOf]) (by simp [keysOf]) (by simp [keysOf]) ?_
   simp only [go_sem, hl2]
   exact rd_of (s, k) (by first | omega | (simp only; omega)) ⟨hk1, by simp only; omega, hs, fun z hz => by simp only at hz; rw [hy] at hz; injection hz with hz; rw [← hz]; exact hl3⟩ (sR [] [])
  ·have hl3 : lt_choose_measured c y x = true := hl2
   simp only [go_sem, s_slices_symMergeCmpFunc_choose_measured_b0, d2, h1, h2, h3, ia, ib, g1, g2]
   refine Cl_cap (hcc) (by simp [keysOf, stoOf]) (by simp [keysOf]) (by simp [keysOf]) ?_
   simp only [go_sem, hl2, ek]
   have hnew : ∀ i z, i + 1 = k + 1 → b[i]? = some z → lt_choose_measured c z x = true := by
    intro i z hi hz
    obtain rfl : i = k := by omega
    rw [hy] at hz; injection hz with hz; rw [← hz]; exact hl3
   exact rd_of (k + 1, t) (by first | omega | (simp only; omega)) ⟨hk2, htb, hnew, ht⟩ (sR [] [])
 ·obtain rfl : s = t := by omega
  have d2 : decide (p.length + 1 + s < p.length + 1 + s) = false := decide_eq_false (by omega)
  obtain ⟨b1, b2, rfl, rfl⟩ := split_at htb
  have hmrg : mrg (lt_choose_measured c) [x] (b1 ++ b2) = b1 ++ x :: b2 := by
   refine mrg_one_left hO x sb (fun y hy => ?_) (fun y hy => ?_)
   ·obtain ⟨l1, hy⟩ := last_get hy
    exact hs (b1.length - 1) y (by omega) (by rw [List.getElem?_append_left (by omega)]; exact hy)
   ·obtain ⟨l1, hy⟩ := head_get hy
    exact ht y (by rw [List.getElem?_append_right (Nat.le_refl _), Nat.sub_self]; exact hy)
  rw [hmrg]
  have eo : p ++ (b1 ++ x :: b2) ++ q = p ++ b1 ++ x :: (b2 ++ q) := by simp
  rw [eo]
  have hbl : (b1 ++ b2).length = b1.length + b2.length := List.length_append
  rw [hbl] at hLs
  have ek : IntKind.i64.wrap (((p.length + 1 + b1.length : Nat) : Int) - 1) = ((p.length + b1.length : Nat) : Int) := by rw [wrap_i64_of (by omega) (by omega)]; omega
  clear hs ht hbl hmrg
  simp only [go_sem, s_slices_symMergeCmpFunc_choose_measured_b0, s_slices_symMergeCmpFunc_choose_measured_t2, d2]
  refine W_loop (fun u : List (Ser × Option Int) × List (Ser × Option Int) => u.2.length) (fun u => b1 = u.1 ++ u.2)
   (fun u => [(0, .own 0 6 0 L r), (10, I (p.length + 1 + b1.length : Nat)), (13, I (p.length + u.1.length : Nat))])
   (fun u => [(0, .row 6 true ((p ++ u.1 ++ x :: (u.2 ++ b2 ++ q)).map row_choose_measured)), (1, .box [Bo cdn])]) ([], b1) rfl ?_ ?_
  ·have e2 : p ++ [x] ++ (b1 ++ b2) ++ q = p ++ [] ++ x :: (b1 ++ b2 ++ q) := by simp
   rw [e2]
   exact (sR [] [])
  ·rintro ⟨u1, u2⟩ hu
   simp only at hu ⊢
   cases u2 with
   | nil =>
    rw [List.append_nil] at hu
    subst hu
    have d3 : decide (p.length + b1.length < p.length + b1.length) = false := decide_eq_false (by omega)
    have e2 : p ++ b1 ++ x :: ([] ++ b2 ++ q) = p ++ b1 ++ x :: (b2 ++ q) := by simp
    rw [e2]
    simp only [go_sem, s_slices_symMergeCmpFunc_choose_measured_b1, ek, d3]
    refine wO [] [] ?_
    simp only [go_sem, r_slices_symMergeCmpFunc_choose_measured, exists_eq_left', Option.some.injEq]
    simp [wkV, wkL, slTrees, AV.asOwn, rowPart, stoOf, AV.isNil, shA, rowsT, cellsT, cellT, ren]
   | cons y u2 =>
    have hbl : b1.length = u1.length + (u2.length + 1) := by rw [hu]; simp
    have d3 : decide (p.length + u1.length < p.length + b1.length) = true := decide_eq_true (by omega)
    obtain ⟨g1, g2, _, _, g3, g4⟩ := sw_step (p ++ u1) x y (u2 ++ b2 ++ q) (n := p.length + u1.length) (m := p.length + (u1.length + 1)) (by simp) (by omega)
    have e2 : p ++ u1 ++ x :: (y :: u2 ++ b2 ++ q) = p ++ u1 ++ x :: y :: (u2 ++ b2 ++ q) := by simp
    rw [e2]
    have em : IntKind.i64.wrap (((p.length + u1.length : Nat) : Int) + 1) = ((p.length + (u1.length + 1) : Nat) : Int) := by rw [wrap_i64_of (by omega) (by omega)]; omega
    have ia : ((p.length + u1.length : Nat) : Int) < (L : Int) := by omega
    have ib : ((p.length + (u1.length + 1) : Nat) : Int) < (L : Int) := by omega
    have hnx : (((p ++ u1 ++ x :: y :: (u2 ++ b2 ++ q)).map row_choose_measured).set (p.length + u1.length) [.v (.string (toB (y).1.1)), .v (.int .i64 (y).1.2.1), .v (.int .i64 (y).1.2.2.1), .sl 2 ((y).1.2.2.2.map numT), .v (.bool (y).2.isNone), .v (.int .i64 ((y).2.getD 0))]).set (p.length + (u1.length + 1)) [.v (.string (toB (x).1.1)), .v (.int .i64 (x).1.2.1), .v (.int .i64 (x).1.2.2.1), .sl 2 ((x).1.2.2.2.map numT), .v (.bool (x).2.isNone), .v (.int .i64 ((x).2.getD 0))] = (p ++ u1 ++ y :: x :: (u2 ++ b2 ++ q)).map row_choose_measured := by
     rw [← g4, List.map_set, List.map_set]; rfl
    have h3 : (((p ++ u1 ++ x :: y :: (u2 ++ b2 ++ q)).map row_choose_measured).set (p.length + u1.length) [.v (.string (toB (y).1.1)), .v (.int .i64 (y).1.2.1), .v (.int .i64 (y).1.2.2.1), .sl 2 ((y).1.2.2.2.map numT), .v (.bool (y).2.isNone), .v (.int .i64 ((y).2.getD 0))])[p.length + (u1.length + 1)]? = some [.v (.string (toB (y).1.1)), .v (.int .i64 (y).1.2.1), .v (.int .i64 (y).1.2.2.1), .sl 2 ((y).1.2.2.2.map numT), .v (.bool (y).2.isNone), .v (.int .i64 ((y).2.getD 0))] := by
     have := congrArg (Option.map row_choose_measured) g3
     rw [← List.getElem?_map, List.map_set] at this
     exact this
    have h1 : ((p ++ u1 ++ x :: y :: (u2 ++ b2 ++ q)).map row_choose_measured)[p.length + u1.length]? = some [.v (.string (toB (x).1.1)), .v (.int .i64 (x).1.2.1), .v (.int .i64 (x).1.2.2.1), .sl 2 ((x).1.2.2.2.map numT), .v (.bool (x).2.isNone), .v (.int .i64 ((x).2.getD 0))] := by rw [List.getElem?_map, g1]; rfl
    have h2 : ((p ++ u1 ++ x :: y :: (u2 ++ b2 ++ q)).map row_choose_measured)[p.length + (u1.length + 1)]? = some [.v (.string (toB (y).1.1)), .v (.int .i64 (y).1.2.1), .v (.int .i64 (y).1.2.2.1), .sl 2 ((y).1.2.2.2.map numT), .v (.bool (y).2.isNone), .v (.int .i64 ((y).2.getD 0))] := by rw [List.getElem?_map, g2]; rfl
    generalize hdm : List.map row_choose_measured (p ++ u1 ++ x :: y :: (u2 ++ b2 ++ q)) = dm at *
    simp only [go_sem, s_slices_symMergeCmpFunc_choose_measured_b1, ek, d3, em, ia, ib, h1, h2, h3, hnx]
    refine rd_of (u1 ++ [y], u2) (by simp) (by simp only; rw [hu]; simp) ?_
    have e3 : p ++ u1 ++ y :: x :: (u2 ++ b2 ++ q) = p ++ (u1 ++ [y]) ++ x :: (u2 ++ b2 ++ q) := by simp
    rw [e3]
    simp only [List.length_append, List.length_cons, List.length_nil, Nat.zero_add]
    exact (sR [] [])

end Go.Proofs.YtgmpceijcdimkaaGreatDoor
namespace Go.Proofs.YtgmpceijcdimkaaGreatDoor
open Go Go.Sx

set_option maxHeartbeats 1000000 in
theorem f_sym2_choose_measured (g L : Nat) (r : Bool) (cdn : Bool) (c : (Ser × Option Int) → (Ser × Option Int) → Int) (D : (Ser × Option Int) → Prop) (hc : ∀ x y, D x → D y → Meets Tryz.prog E0 g ([(.ag [Str (toB (x).1.1), I (x).1.2.1, I (x).1.2.2.1, numL (x).1.2.2.2, Bo (x).2.isNone, I ((x).2.getD 0)]), (.ag [Str (toB (y).1.1), I (y).1.2.1, I (y).1.2.2.1, numL (y).1.2.2.2, Bo (y).2.isNone, I ((y).2.getD 0)])] ++ [.ptr 1 0]) [(1, .box [Bo cdn])] (I (c x y)) [(1, .box [Bo cdn])]) (hO : Below3 (lt_choose_measured c))
  (p a q : List (Ser × Option Int)) (y : (Ser × Option Int)) (ha1 : a.length ≠ 1) (ha0 : a ≠ []) (hy : D y) (ha : ∀ x ∈ a, D x) (sa : Srt (lt_choose_measured c) a) (hL : L = (p ++ a ++ [y] ++ q).length) (hLb : L ≤ 281474976710656) :
  Meets Tryz.prog E0 n_slices_symMergeCmpFunc_choose_measured [.own 0 6 0 L r, I p.length, I (p.length + a.length : Nat), I (p.length + a.length + 1 : Nat), .fn g [] [.ptr 1 0]] [(0, .row 6 true ((p ++ a ++ [y] ++ q).map row_choose_measured)), (1, .box [Bo cdn])] (.tp []) [(0, .row 6 true ((p ++ mrg (lt_choose_measured c) a [y] ++ q).map row_choose_measured)), (1, .box [Bo cdn])] := by
 have hLs : L = p.length + a.length + 1 + q.length := by rw [hL]; simp only [List.length_append, List.length_cons, List.length_nil]
 obtain ⟨M, hM⟩ : ∃ M, p.length + a.length = M := ⟨_, rfl⟩
 rw [hM]
 have ha0' : 0 < a.length := List.length_pos_iff.2 ha0
 refine m_slices_symMergeCmpFunc_choose_measured (by simp) (shut_of (by simp [idsL, AV.ids, keysOf]) (by simp [Ob.live, Ob.ids, keysOf, idsL, AV.ids])) (shut_of (by simp [idsL, AV.ids, keysOf]) (by simp [Ob.live, Ob.ids, keysOf, idsL, AV.ids])) (by simp [keysOf]) (by simp [keysOf]) ?_
 have e1 : IntKind.i64.wrap ((M : Int) - (p.length : Int)) = (a.length : Int) := by rw [wrap_i64_of (by omega) (by omega)]; omega
 have d1 : decide ((a.length : Int) = 1) = false := decide_eq_false (by omega)
 have e2 : IntKind.i64.wrap (((M + 1 : Nat) : Int) - (M : Int)) = 1 := by rw [wrap_i64_of (by omega) (by omega)]; omega
 have d2 : decide ((1 : Int) = 1) = true := rfl
 simp only [go_sem, s_slices_symMergeCmpFunc_choose_measured, s_slices_symMergeCmpFunc_choose_measured_t9, e1, d1, e2, d2]
 refine W_loop (fun s : Nat × Nat => s.2 - s.1) (fun s => s.1 ≤ s.2 ∧ s.2 ≤ a.length ∧ (∀ i z, i + 1 = s.1 → a[i]? = some z → lt_choose_measured c y z = false) ∧ (∀ z, a[s.2]? = some z → lt_choose_measured c y z = true))
  (fun s => [(0, .own 0 6 0 L r), (1, I p.length), (2, I M), (4, .fn g [] [.ptr 1 0]), (14, I (p.length + s.1 : Nat)), (15, I (p.length + s.2 : Nat))])
  (fun s => [(0, .row 6 true ((p ++ a ++ [y] ++ q).map row_choose_measured)), (1, .box [Bo cdn])]) (0, a.length) ⟨Nat.zero_le _, Nat.le_refl _, by omega, fun y h => by simp at h⟩ ?_ ?_
 ·simp only [hM, Nat.add_zero]
  exact (sR [] [])
 rintro ⟨s, t⟩ ⟨hst, hta, hs, ht⟩
 simp only at hst hta hs ht ⊢
 by_cases hlt : s < t
 ·have d2 : decide (p.length + s < p.length + t) = true := decide_eq_true (by omega)
  obtain ⟨h1, h2, h3⟩ := half_choose_measured (x := p.length + s) (y := p.length + t) (by omega)
  have hh : (p.length + s + (p.length + t)) / 2 = p.length + (s + t) / 2 := by omega
  rw [hh] at h3
  have hk1 : s ≤ (s + t) / 2 := by omega
  have hk2 : (s + t) / 2 < t := by omega
  generalize (s + t) / 2 = k at *
  obtain ⟨z, hz, hzm⟩ := get_some (show k < a.length by omega)
  have hcc := hc y z hy (ha z hzm)
  have g1 : ((p ++ a ++ [y] ++ q).map row_choose_measured)[M]? = some [.v (.string (toB (y).1.1)), .v (.int .i64 (y).1.2.1), .v (.int .i64 (y).1.2.2.1), .sl 2 ((y).1.2.2.2.map numT), .v (.bool (y).2.isNone), .v (.int .i64 ((y).2.getD 0))] := by rw [List.getElem?_map, get_b (p := p) (a := a) (b := [y]) (q := q) (n := M) (k := 0) (y := y) rfl (by omega)]; rfl
  have g2 : ((p ++ a ++ [y] ++ q).map row_choose_measured)[p.length + k]? = some [.v (.string (toB (z).1.1)), .v (.int .i64 (z).1.2.1), .v (.int .i64 (z).1.2.2.1), .sl 2 ((z).1.2.2.2.map numT), .v (.bool (z).2.isNone), .v (.int .i64 ((z).2.getD 0))] := by rw [List.getElem?_map, get_a (p := p) (a := a) (b := [y]) (q := q) (n := p.length + k) hz rfl]; rfl
  have ia : ((p.length + k : Nat) : Int) < (L : Int) := by omega
  have ib : (M : Int) < (L : Int) := by omega
  have ek : IntKind.i64.wrap (((p.length + k : Nat) : Int) + 1) = ((p.length + (k + 1) : Nat) : Int) := by rw [wrap_i64_of (by omega) (by omega)]; omega
  generalize hdm : (p ++ a ++ [y] ++ q).map row_choose_measured = dm at *
  cases hl2 : decide (c y z < 0)
  ·have hl3 : lt_choose_measured c y z = false := hl2
   have hnew : ∀ i x, i + 1 = k + 1 → a[i]? = some x → lt_choose_measured c y x = false := by
    intro i x hi hx
    obtain rfl : i = k := by omega
    rw [hz] at hx; injection hx with hx; rw [← hx]; exact hl3
   simp only [go_sem, s_slices_symMergeCmpFunc_choose_measured_b3, d2, h1, h2, h3, ia, ib, g1, g2]
   refine Cl_cap (hcc) (by simp [keysOf, stoOf]) (by simp [keysOf]) (by simp [keysOf]) ?_
   simp only [go_sem, hl2, ek]
   exact rd_of (k + 1, t) (by first | omega | (simp only; omega)) ⟨hk2, hta, hnew, ht⟩ (sR [] [])
  ·have hl3 : lt_choose_measured c y z = true := hl2
   have hnew : ∀ x, a[k]? = some x → lt_choose_measured c y x = true := by
    intro x hx
    rw [hz] at hx; injection hx with hx; rw [← hx]; exact hl3
   simp only [go_sem, s_slices_symMergeCmpFunc_choose_measured_b3, d2, h1, h2, h3, ia, ib, g1, g2]
   refine Cl_cap (hcc) (by simp [keysOf, stoOf]) (by simp [keysOf]) (by simp [keysOf]) ?_
   simp only [go_sem, hl2]
   exact rd_of (s, k) (by first | omega | (simp only; omega)) ⟨hk1, by simp only; omega, hs, hnew⟩ (sR [] [])
 ·obtain rfl : s = t := by omega
  have d2 : decide (p.length + s < p.length + s) = false := decide_eq_false (by omega)
  obtain ⟨a1, a2, rfl, rfl⟩ := split_at hta
  have hmrg : mrg (lt_choose_measured c) (a1 ++ a2) [y] = a1 ++ y :: a2 := by
   refine mrg_one_right hO y sa (fun z hz => ?_) (fun z hz => ?_)
   ·obtain ⟨l1, hz⟩ := last_get hz
    exact hs (a1.length - 1) z (by omega) (by rw [List.getElem?_append_left (by omega)]; exact hz)
   ·obtain ⟨l1, hz⟩ := head_get hz
    exact ht z (by rw [List.getElem?_append_right (Nat.le_refl _), Nat.sub_self]; exact hz)
  rw [hmrg]
  have eo : p ++ (a1 ++ y :: a2) ++ q = p ++ a1 ++ y :: (a2 ++ q) := by simp
  rw [eo]
  have hal : (a1 ++ a2).length = a1.length + a2.length := List.length_append
  rw [hal] at hLs hM
  clear hs ht hal hmrg e1 d1 ha0' ha1 hta
  simp only [go_sem, s_slices_symMergeCmpFunc_choose_measured_b3, s_slices_symMergeCmpFunc_choose_measured_t5, d2]
  refine W_loop (fun u : List (Ser × Option Int) × List (Ser × Option Int) => u.1.length) (fun u => a2 = u.1 ++ u.2)
   (fun u => [(0, .own 0 6 0 L r), (14, I (p.length + a1.length : Nat)), (17, I (p.length + a1.length + u.1.length : Nat))])
   (fun u => [(0, .row 6 true ((p ++ a1 ++ u.1 ++ y :: (u.2 ++ q)).map row_choose_measured)), (1, .box [Bo cdn])]) (a2, []) (by simp) ?_ ?_
  ·have e2 : p ++ (a1 ++ a2) ++ [y] ++ q = p ++ a1 ++ a2 ++ y :: ([] ++ q) := by simp
   rw [e2, ← hM]
   simp only [Nat.add_assoc]
   exact (sR [] [])
  ·rintro ⟨u1, u2⟩ hu
   simp only at hu ⊢
   rcases nil_or_snoc u1 with rfl | ⟨u1, z, rfl⟩
   ·rw [List.nil_append] at hu
    subst hu
    have d3 : decide (p.length + a1.length < p.length + a1.length) = false := decide_eq_false (by omega)
    simp only [List.append_nil, List.length_nil, Nat.add_zero]
    simp only [go_sem, s_slices_symMergeCmpFunc_choose_measured_b4, d3]
    refine wO [] [] ?_
    simp only [go_sem, r_slices_symMergeCmpFunc_choose_measured, exists_eq_left', Option.some.injEq]
    simp [wkV, wkL, slTrees, AV.asOwn, rowPart, stoOf, AV.isNil, shA, rowsT, cellsT, cellT, ren]
   ·have hal : a2.length = u1.length + 1 + u2.length := by rw [hu]; simp; omega
    have hl1 : (u1 ++ [z]).length = u1.length + 1 := by simp
    simp only [hl1]
    have d3 : decide (p.length + a1.length < p.length + a1.length + (u1.length + 1)) = true := decide_eq_true (by omega)
    obtain ⟨g1, g2, g3, g4, _⟩ := sw_step (p ++ a1 ++ u1) z y (u2 ++ q) (n := p.length + a1.length + u1.length) (m := p.length + a1.length + (u1.length + 1)) (by simp; omega) (by omega)
    have e2 : p ++ a1 ++ (u1 ++ [z]) ++ y :: (u2 ++ q) = p ++ a1 ++ u1 ++ z :: y :: (u2 ++ q) := by simp
    rw [e2]
    have em : IntKind.i64.wrap (((p.length + a1.length + (u1.length + 1) : Nat) : Int) - 1) = ((p.length + a1.length + u1.length : Nat) : Int) := by rw [wrap_i64_of (by omega) (by omega)]; omega
    have ia : ((p.length + a1.length + u1.length : Nat) : Int) < (L : Int) := by omega
    have ib : ((p.length + a1.length + (u1.length + 1) : Nat) : Int) < (L : Int) := by omega
    have hnx : (((p ++ a1 ++ u1 ++ z :: y :: (u2 ++ q)).map row_choose_measured).set (p.length + a1.length + (u1.length + 1)) [.v (.string (toB (z).1.1)), .v (.int .i64 (z).1.2.1), .v (.int .i64 (z).1.2.2.1), .sl 2 ((z).1.2.2.2.map numT), .v (.bool (z).2.isNone), .v (.int .i64 ((z).2.getD 0))]).set (p.length + a1.length + u1.length) [.v (.string (toB (y).1.1)), .v (.int .i64 (y).1.2.1), .v (.int .i64 (y).1.2.2.1), .sl 2 ((y).1.2.2.2.map numT), .v (.bool (y).2.isNone), .v (.int .i64 ((y).2.getD 0))] = (p ++ a1 ++ u1 ++ y :: z :: (u2 ++ q)).map row_choose_measured := by
     rw [← g4, List.map_set, List.map_set]; rfl
    have h3 : (((p ++ a1 ++ u1 ++ z :: y :: (u2 ++ q)).map row_choose_measured).set (p.length + a1.length + (u1.length + 1)) [.v (.string (toB (z).1.1)), .v (.int .i64 (z).1.2.1), .v (.int .i64 (z).1.2.2.1), .sl 2 ((z).1.2.2.2.map numT), .v (.bool (z).2.isNone), .v (.int .i64 ((z).2.getD 0))])[p.length + a1.length + u1.length]? = some [.v (.string (toB (z).1.1)), .v (.int .i64 (z).1.2.1), .v (.int .i64 (z).1.2.2.1), .sl 2 ((z).1.2.2.2.map numT), .v (.bool (z).2.isNone), .v (.int .i64 ((z).2.getD 0))] := by
     have := congrArg (Option.map row_choose_measured) g3
     rw [← List.getElem?_map, List.map_set] at this
     exact this
    have h1 : ((p ++ a1 ++ u1 ++ z :: y :: (u2 ++ q)).map row_choose_measured)[p.length + a1.length + u1.length]? = some [.v (.string (toB (z).1.1)), .v (.int .i64 (z).1.2.1), .v (.int .i64 (z).1.2.2.1), .sl 2 ((z).1.2.2.2.map numT), .v (.bool (z).2.isNone), .v (.int .i64 ((z).2.getD 0))] := by rw [List.getElem?_map, g1]; rfl
    have h2 : ((p ++ a1 ++ u1 ++ z :: y :: (u2 ++ q)).map row_choose_measured)[p.length + a1.length + (u1.length + 1)]? = some [.v (.string (toB (y).1.1)), .v (.int .i64 (y).1.2.1), .v (.int .i64 (y).1.2.2.1), .sl 2 ((y).1.2.2.2.map numT), .v (.bool (y).2.isNone), .v (.int .i64 ((y).2.getD 0))] := by rw [List.getElem?_map, g2]; rfl
    generalize hdm : List.map row_choose_measured (p ++ a1 ++ u1 ++ z :: y :: (u2 ++ q)) = dm at *
    simp only [go_sem, s_slices_symMergeCmpFunc_choose_measured_b4, d3, em, ia, ib, h1, h2, h3, hnx]
    refine rd_of (u1, z :: u2) (by simp) (by simp only; rw [hu]; simp) ?_
    exact (sR [] [])

end Go.Proofs.YtgmpceijcdimkaaGreatDoor
namespace Go.Proofs.YtgmpceijcdimkaaGreatDoor
open Go Go.Sx

set_option maxHeartbeats 4000000 in
theorem sym_tail_choose_measured (io : List Nat) (Q : Exit → St → Prop) (k : List Kt) (env : List (Nat × AV)) (g L : Nat) (r : Bool) (cdn : Bool) (P M N P1 E1 H Z0 : Nat) (D1 D2 D3 D4 : List (Ser × Option Int)) (v1 v2 w1 w2 : Bool)
  (e0 : lk 0 env = .own 0 6 0 L r) (e1 : lk 1 env = I P) (e2 : lk 2 env = I M) (e3 : lk 3 env = I N) (e4 : lk 4 env = .fn g [] [.ptr 1 0]) (e18 : lk 18 env = I H) (e19 : lk 19 env = I Z0) (e20 : lk 20 env = I P1)
  (ee : IntKind.i64.wrap ((Z0 : Int) - (P1 : Int)) = (E1 : Int))
  (x1 : decide (P1 < M) = !v2) (x2 : decide (M < E1) = !w1) (x3 : decide (P < P1) = !v1) (x4 : decide (P1 < H) = !w1) (x5 : decide (H < E1) = !v2) (x6 : decide (E1 < N) = !w2)
  (hr : v2 = false → w1 = false → Meets Tryz.prog E0 n_slices_rotateCmpFunc_choose_measured [.own 0 6 0 L r, I P1, I M, I E1, .fn g [] [.ptr 1 0]] [(0, .row 6 true (D1.map row_choose_measured)), (1, .box [Bo cdn])] (.tp []) [(0, .row 6 true (D2.map row_choose_measured)), (1, .box [Bo cdn])])
  (i1 : v1 = false → w1 = false → Meets Tryz.prog E0 n_slices_symMergeCmpFunc_choose_measured [.own 0 6 0 L r, I P, I P1, I H, .fn g [] [.ptr 1 0]] [(0, .row 6 true (D2.map row_choose_measured)), (1, .box [Bo cdn])] (.tp []) [(0, .row 6 true (D3.map row_choose_measured)), (1, .box [Bo cdn])])
  (i2 : v2 = false → w2 = false → Meets Tryz.prog E0 n_slices_symMergeCmpFunc_choose_measured [.own 0 6 0 L r, I H, I E1, I N, .fn g [] [.ptr 1 0]] [(0, .row 6 true (D3.map row_choose_measured)), (1, .box [Bo cdn])] (.tp []) [(0, .row 6 true (D4.map row_choose_measured)), (1, .box [Bo cdn])])
  (r1 : (v2 || w1) = true → D1 = D2) (r2 : (v1 || w1) = true → D2 = D3) (r3 : (v2 || w2) = true → D3 = D4)
  (hend : ∀ env tl, B Tryz.prog E0 io Q k .normal env ((0, .row 6 true (D4.map row_choose_measured)) :: (1, .box [Bo cdn]) :: tl)) :
  W Tryz.prog E0 io Q s_slices_symMergeCmpFunc_choose_measured_t7 k env [(0, .row 6 true (D1.map row_choose_measured)), (1, .box [Bo cdn])] := by
 cases v2 <;> cases w1 <;> simp only [Bool.not_true, Bool.not_false] at x1 x2 x4 x5
 case' false.false =>
  simp only [go_sem, s_slices_symMergeCmpFunc_choose_measured_t7, e0, e1, e2, e3, e4, e18, e19, e20, ee, x1, x2]
  refine oB (hr rfl rfl) ?_
  simp only [go_sem]
 case' false.true =>
  have := r1 rfl; subst this
  simp only [go_sem, s_slices_symMergeCmpFunc_choose_measured_t7, e0, e1, e2, e3, e4, e18, e19, e20, ee, x1, x2]
 case' true.false =>
  have := r1 rfl; subst this
  simp only [go_sem, s_slices_symMergeCmpFunc_choose_measured_t7, e0, e1, e2, e3, e4, e18, e19, e20, ee, x1, x2]
 case' true.true =>
  have := r1 rfl; subst this
  simp only [go_sem, s_slices_symMergeCmpFunc_choose_measured_t7, e0, e1, e2, e3, e4, e18, e19, e20, ee, x1, x2]
 all_goals
  cases v1 <;> simp only [Bool.not_true, Bool.not_false] at x3
  all_goals
   (try (have r2' := r2 rfl; subst r2'))
   simp only [go_sem, x3, x4]
   try (refine oB (i1 rfl rfl) ?_; simp only [go_sem])
  all_goals
   cases w2 <;> simp only [Bool.not_true, Bool.not_false] at x6
   all_goals
    (try (have r3' := r3 rfl; subst r3'))
    simp only [go_sem, x5, x6]
    try (refine oB (i2 rfl rfl) ?_; simp only [go_sem])
   all_goals exact hend _ _

set_option maxHeartbeats 4000000 in
theorem f_sym3_choose_measured (g L : Nat) (r : Bool) (cdn : Bool) (c : (Ser × Option Int) → (Ser × Option Int) → Int) (D : (Ser × Option Int) → Prop) (hc : ∀ x y, D x → D y → Meets Tryz.prog E0 g ([(.ag [Str (toB (x).1.1), I (x).1.2.1, I (x).1.2.2.1, numL (x).1.2.2.2, Bo (x).2.isNone, I ((x).2.getD 0)]), (.ag [Str (toB (y).1.1), I (y).1.2.1, I (y).1.2.2.1, numL (y).1.2.2.2, Bo (y).2.isNone, I ((y).2.getD 0)])] ++ [.ptr 1 0]) [(1, .box [Bo cdn])] (I (c x y)) [(1, .box [Bo cdn])]) (hO : Below3 (lt_choose_measured c))
  (p a b q : List (Ser × Option Int)) (ha1 : a.length ≠ 1) (ha0 : a ≠ []) (hb1 : b.length ≠ 1) (hb0 : b ≠ []) (ha : ∀ x ∈ a, D x) (hb : ∀ x ∈ b, D x) (sa : Srt (lt_choose_measured c) a) (sb : Srt (lt_choose_measured c) b) (hL : L = (p ++ a ++ b ++ q).length) (hLb : L ≤ 281474976710656)
  (ih : ∀ p' a' b' q' : List (Ser × Option Int), a'.length + b'.length < a.length + b.length → a' ≠ [] → b' ≠ [] → (∀ x ∈ a', D x) → (∀ x ∈ b', D x) → Srt (lt_choose_measured c) a' → Srt (lt_choose_measured c) b' → L = (p' ++ a' ++ b' ++ q').length →
   Meets Tryz.prog E0 n_slices_symMergeCmpFunc_choose_measured [.own 0 6 0 L r, I p'.length, I (p'.length + a'.length : Nat), I (p'.length + a'.length + b'.length : Nat), .fn g [] [.ptr 1 0]] [(0, .row 6 true ((p' ++ a' ++ b' ++ q').map row_choose_measured)), (1, .box [Bo cdn])] (.tp []) [(0, .row 6 true ((p' ++ mrg (lt_choose_measured c) a' b' ++ q').map row_choose_measured)), (1, .box [Bo cdn])]) :
  Meets Tryz.prog E0 n_slices_symMergeCmpFunc_choose_measured [.own 0 6 0 L r, I p.length, I (p.length + a.length : Nat), I (p.length + a.length + b.length : Nat), .fn g [] [.ptr 1 0]] [(0, .row 6 true ((p ++ a ++ b ++ q).map row_choose_measured)), (1, .box [Bo cdn])] (.tp []) [(0, .row 6 true ((p ++ mrg (lt_choose_measured c) a b ++ q).map row_choose_measured)), (1, .box [Bo cdn])] := by
 have hLs : L = p.length + a.length + b.length + q.length := by rw [hL]; simp only [List.length_append]
 obtain ⟨P, hP⟩ : ∃ P, p.length = P := ⟨_, rfl⟩
 obtain ⟨M, hM⟩ : ∃ M, P + a.length = M := ⟨_, rfl⟩
 obtain ⟨N, hN⟩ : ∃ N, M + b.length = N := ⟨_, rfl⟩
 rw [hP] at hLs ⊢
 rw [hM, hN]
 have ha0' : 0 < a.length := List.length_pos_iff.2 ha0
 have hb0' : 0 < b.length := List.length_pos_iff.2 hb0
 obtain ⟨h, hh⟩ : ∃ h, (a.length + b.length) / 2 = h := ⟨_, rfl⟩
 refine m_slices_symMergeCmpFunc_choose_measured (by simp) (shut_of (by simp [idsL, AV.ids, keysOf]) (by simp [Ob.live, Ob.ids, keysOf, idsL, AV.ids])) (shut_of (by simp [idsL, AV.ids, keysOf]) (by simp [Ob.live, Ob.ids, keysOf, idsL, AV.ids])) (by simp [keysOf]) (by simp [keysOf]) ?_
 have e1 : IntKind.i64.wrap ((M : Int) - (P : Int)) = (a.length : Int) := wsub hM.symm (by omega)
 have d1 : decide ((a.length : Int) = 1) = false := decide_eq_false (by omega)
 have e2 : IntKind.i64.wrap ((N : Int) - (M : Int)) = (b.length : Int) := wsub hN.symm (by omega)
 have d2 : decide ((b.length : Int) = 1) = false := decide_eq_false (by omega)
 obtain ⟨q1, q2, q3⟩ := half_choose_measured (x := P) (y := N) (by omega)
 have q4 : (P + N) / 2 = P + h := by omega
 rw [q4] at q3
 have e3 : IntKind.i64.wrap (((P + h : Nat) : Int) + (M : Int)) = ((P + h + M : Nat) : Int) := wadd rfl (by omega)
 obtain ⟨Z, hZ⟩ : ∃ Z, P + h + M = Z + 1 := ⟨P + h + M - 1, by omega⟩
 have e4 : IntKind.i64.wrap (((P + h + M : Nat) : Int) - 1) = (Z : Int) := wsub1 hZ (by omega)
 obtain ⟨lo, hi, hlohi, hl1, hl2, hl3, hl4, hl5, hcase⟩ : ∃ lo hi : Nat, lo ≤ hi ∧ hi ≤ a.length ∧ hi ≤ h ∧ h ≤ lo + b.length ∧ Hid (lo = 0 ∨ h = lo + b.length) ∧ Hid (hi = a.length ∨ hi = h) ∧
   ((decide (P + h < M) = true ∧ IntKind.i64.wrap (((P + h + M : Nat) : Int) - (N : Int)) = ((P + lo : Nat) : Int) ∧ P + h = P + hi) ∨ (decide (P + h < M) = false ∧ P = P + lo ∧ M = P + hi)) := by
  by_cases hc : h < a.length
  ·refine ⟨h - b.length, h, by omega, by omega, by omega, by omega, .inr (by omega), .inr rfl, .inl ⟨decide_eq_true (by omega), ?_, rfl⟩⟩
   exact wsub (by omega) (by omega)
  ·exact ⟨0, a.length, by omega, by omega, by omega, by omega, .inl rfl, .inl rfl, .inr ⟨decide_eq_false (by omega), by omega, by omega⟩⟩
 have hML : M ≤ L := by clear d1 d2 e1 e2 q1 q2 q3 q4 e3 e4 hcase ha1 hb1; omega
 have hNL : N ≤ L := by clear d1 d2 e1 e2 q1 q2 q3 q4 e3 e4 hcase ha1 hb1; omega
 have hhn : h < a.length + b.length := by clear d1 d2 e1 e2 q1 q2 q3 q4 e3 e4 hcase ha1 hb1; omega
 have hh0 : 0 < h := by clear d1 d2 e1 e2 q1 q2 q3 q4 e3 e4 hcase; omega
 have hZb : Z + 1 ≤ 9007199254740992 := by clear d1 d2 e1 e2 q1 q2 q3 q4 e3 e4 hcase ha1 hb1; omega
 clear ha1 hb1 ha0' hb0' hLs
 rcases hcase with ⟨c1, c2, c3⟩ | ⟨c1, c2, c3⟩
 case' inl =>
  simp only [go_sem, s_slices_symMergeCmpFunc_choose_measured, s_slices_symMergeCmpFunc_choose_measured_t9, s_slices_symMergeCmpFunc_choose_measured_t8, e1, d1, e2, d2, q1, q2, q3, e3, e4, c1, c2]
 case' inr =>
  simp only [go_sem, s_slices_symMergeCmpFunc_choose_measured, s_slices_symMergeCmpFunc_choose_measured_t9, s_slices_symMergeCmpFunc_choose_measured_t8, e1, d1, e2, d2, q1, q2, q3, e3, e4, c1]
 all_goals
  refine W_loop (fun s : Nat × Nat => s.2 - s.1) (fun s => lo ≤ s.1 ∧ s.1 ≤ s.2 ∧ s.2 ≤ hi ∧ Hid (s.1 = lo ∨ ∃ y z, a[s.1 - 1]? = some z ∧ b[h - s.1]? = some y ∧ lt_choose_measured c y z = false) ∧ Hid (s.2 = hi ∨ ∃ y z, a[s.2]? = some z ∧ b[h - 1 - s.2]? = some y ∧ lt_choose_measured c y z = true))
   (fun s => [(0, .own 0 6 0 L r), (1, I P), (2, I M), (3, I N), (4, .fn g [] [.ptr 1 0]), (18, I (P + h : Nat)), (19, I (P + h + M : Nat)), (20, I (P + s.1 : Nat)), (21, I (P + s.2 : Nat)), (22, I Z)])
   (fun s => [(0, .row 6 true ((p ++ a ++ b ++ q).map row_choose_measured)), (1, .box [Bo cdn])]) (lo, hi) ⟨Nat.le_refl _, hlohi, Nat.le_refl _, .inl rfl, .inl rfl⟩ ?_ ?_
 case inl.refine_1 =>
  simp only [← c3]
  exact (sR [] [])
 case inr.refine_1 =>
  simp only [← c2, ← c3]
  exact (sR [] [])
 all_goals
  clear c1 c2 c3
  rintro ⟨s, t⟩ ⟨hs0, hst, ht0, hs, ht⟩
  simp only at hs0 hst ht0 hs ht ⊢
  by_cases hlt : s < t
  ·have d3 : decide (P + s < P + t) = true := decide_eq_true (Nat.add_lt_add_left hlt P)
   obtain ⟨h1, h2, h3⟩ := half_choose_measured (x := P + s) (y := P + t) (sy5 hlt (Nat.le_trans ht0 hl1) hM (Nat.le_trans hML hLb))
   rw [sy2] at h3
   obtain ⟨hk1, hk2⟩ := sy3 hlt
   generalize (s + t) / 2 = k at *
   have hka : k < a.length := Nat.lt_of_lt_of_le hk2 (Nat.le_trans ht0 hl1)
   have hkh : k < h := Nat.lt_of_lt_of_le hk2 (Nat.le_trans ht0 hl2)
   have hlk : lo ≤ k := Nat.le_trans hs0 hk1
   have hkb := sy1 hlk hkh hl3
   obtain ⟨z, hz, hzm⟩ := get_some hka
   obtain ⟨y, hy, hym⟩ := get_some hkb
   have hcc := hc y z (hb y hym) (ha z hzm)
   have g1 : ((p ++ a ++ b ++ q).map row_choose_measured)[M + (h - 1 - k)]? = some [.v (.string (toB (y).1.1)), .v (.int .i64 (y).1.2.1), .v (.int .i64 (y).1.2.2.1), .sl 2 ((y).1.2.2.2.map numT), .v (.bool (y).2.isNone), .v (.int .i64 ((y).2.getD 0))] := by rw [List.getElem?_map, get_b (p := p) (a := a) (b := b) (q := q) (n := M + (h - 1 - k)) hy (by rw [hP, hM])]; rfl
   have g2 : ((p ++ a ++ b ++ q).map row_choose_measured)[P + k]? = some [.v (.string (toB (z).1.1)), .v (.int .i64 (z).1.2.1), .v (.int .i64 (z).1.2.2.1), .sl 2 ((z).1.2.2.2.map numT), .v (.bool (z).2.isNone), .v (.int .i64 ((z).2.getD 0))] := by rw [List.getElem?_map, get_a (p := p) (a := a) (b := b) (q := q) (n := P + k) hz (by rw [hP])]; rfl
   have ea : IntKind.i64.wrap ((Z : Int) - ((P + k : Nat) : Int)) = ((M + (h - 1 - k) : Nat) : Int) := wsub (sy4 hZ hkh) (Nat.le_of_succ_le hZb)
   have ia : ((M + (h - 1 - k) : Nat) : Int) < (L : Int) := sy6 hkb hN hNL
   have ib : ((P + k : Nat) : Int) < (L : Int) := sy6 hka hM hML
   have ek : IntKind.i64.wrap (((P + k : Nat) : Int) + 1) = ((P + (k + 1) : Nat) : Int) := wadd1 rfl (by clear hZ hZb hN hNL hh hhn hl1 hl2 hl3 hlk hkb hk1 hk2 hs0 hst ht0 hlt; omega)
   generalize hdm : (p ++ a ++ b ++ q).map row_choose_measured = dm at *
   cases hl2 : decide (c y z < 0)
   ·have hnew : Hid (k + 1 = lo ∨ ∃ y z, a[k + 1 - 1]? = some z ∧ b[h - (k + 1)]? = some y ∧ lt_choose_measured c y z = false) :=
     .inr ⟨y, z, hz, by rw [sy7 hkh]; exact hy, hl2⟩
    simp only [go_sem, s_slices_symMergeCmpFunc_choose_measured_b6, d3, h1, h2, h3, ea, ia, ib, g1, g2]
    refine Cl_cap (hcc) (by simp [keysOf, stoOf]) (by simp [keysOf]) (by simp [keysOf]) ?_
    simp only [go_sem, hl2, ek]
    exact rd_of (k + 1, t) (Nat.sub_lt_sub_left hlt (Nat.lt_succ_of_le hk1)) ⟨Nat.le_succ_of_le hlk, hk2, ht0, hnew, ht⟩ (sR [] [])
   ·have hnew : Hid (k = hi ∨ ∃ y z, a[k]? = some z ∧ b[h - 1 - k]? = some y ∧ lt_choose_measured c y z = true) := .inr ⟨y, z, hz, hy, hl2⟩
    simp only [go_sem, s_slices_symMergeCmpFunc_choose_measured_b6, d3, h1, h2, h3, ea, ia, ib, g1, g2]
    refine Cl_cap (hcc) (by simp [keysOf, stoOf]) (by simp [keysOf]) (by simp [keysOf]) ?_
    simp only [go_sem, hl2]
    exact rd_of (s, k) (Nat.sub_lt_sub_right hk1 hk2) ⟨hs0, hk1, Nat.le_trans (Nat.le_of_lt hk2) ht0, hs, hnew⟩ (sR [] [])
  ·obtain rfl : s = t := Nat.le_antisymm hst (Nat.not_lt.1 hlt)
   have d3 : decide (P + s < P + s) = false := decide_eq_false (Nat.lt_irrefl _)
   have hsh : s ≤ h := Nat.le_trans ht0 hl2
   obtain ⟨a1, a2, rfl, rfl⟩ := split_at (Nat.le_trans ht0 hl1)
   obtain ⟨b1, b2, rfl, hu⟩ := split_at (sy8 hs0 hl3)
   have hal : (a1 ++ a2).length = a1.length + a2.length := List.length_append
   have hbl : (b1 ++ b2).length = b1.length + b2.length := List.length_append
   have hab : a1.length + b1.length = h := by rw [hu]; exact Nat.add_sub_cancel' hsh
   have hmrg : mrg (lt_choose_measured c) (a1 ++ a2) (b1 ++ b2) = mrg (lt_choose_measured c) a1 b1 ++ mrg (lt_choose_measured c) a2 b2 := mrg_sym hO sa sb (m := h) hab (hl4.imp id fun e => e.trans (by rw [hbl])) (hl5.imp (fun e => e.trans hal) id) hs ht
   rw [hmrg]
   have ee : IntKind.i64.wrap (((P + h + M : Nat) : Int) - ((P + a1.length : Nat) : Int)) = ((M + b1.length : Nat) : Int) := wsub (sy9 hu hsh) (by rw [hZ]; exact hZb)
   rw [hal] at hM hhn
   rw [hbl] at hN hhn
   have l1 : (mrg (lt_choose_measured c) a1 b1).length = h := (mrg_len _ _ _).trans hab
   have sa' := List.pairwise_append.1 sa
   have sb' := List.pairwise_append.1 sb
   clear hs ht hmrg hl4 hl5 e1 d1 e2 d2 q1 q2 q3 q4 hlohi hlt hst hs0 ht0 hl1 hl2 hl3 hZ hZb e3 e4 hh sa sb hsh hu
   have y1 : M = P + a1.length + a2.length := by rw [← hM, Nat.add_assoc]
   have y2 : P + h = P + a1.length + b1.length := by rw [← hab, Nat.add_assoc]
   have y3 : M + b1.length = P + h + a2.length := by clear hNL hLb hN hhn; omega
   have y4 : N = M + b1.length + b2.length := by rw [← hN, Nat.add_assoc]
   have x1 : decide (P + a1.length < M) = !a2.isEmpty := (dlt y1).trans len_pos
   have x2 : decide (M < M + b1.length) = !b1.isEmpty := (dlt rfl).trans len_pos
   have x3 : decide (P < P + a1.length) = !a1.isEmpty := (dlt rfl).trans len_pos
   have x4 : decide (P + a1.length < P + h) = !b1.isEmpty := (dlt y2).trans len_pos
   have x5 : decide (P + h < M + b1.length) = !a2.isEmpty := (dlt y3).trans len_pos
   have x6 : decide (M + b1.length < N) = !b2.isEmpty := (dlt y4).trans len_pos
   have hr : a2 ≠ [] → b1 ≠ [] → Meets Tryz.prog E0 n_slices_rotateCmpFunc_choose_measured [.own 0 6 0 L r, I (P + a1.length : Nat), I M, I (M + b1.length : Nat), .fn g [] [.ptr 1 0]] [(0, .row 6 true ((p ++ (a1 ++ a2) ++ (b1 ++ b2) ++ q).map row_choose_measured)), (1, .box [Bo cdn])] (.tp []) [(0, .row 6 true ((p ++ a1 ++ b1 ++ (a2 ++ b2 ++ q)).map row_choose_measured)), (1, .box [Bo cdn])] := by
    intro n1 n2
    have := f_rotate_choose_measured g L r cdn (p ++ a1) a2 b1 (b2 ++ q) n1 n2 (by rw [hL]; simp) hLb
    rw [show (p ++ a1).length = P + a1.length by simp [hP], ← y1] at this
    rw [show p ++ (a1 ++ a2) ++ (b1 ++ b2) ++ q = p ++ a1 ++ a2 ++ b1 ++ (b2 ++ q) by simp, show p ++ a1 ++ b1 ++ (a2 ++ b2 ++ q) = p ++ a1 ++ b1 ++ a2 ++ (b2 ++ q) by simp]
    exact this
   have i1 : a1 ≠ [] → b1 ≠ [] → Meets Tryz.prog E0 n_slices_symMergeCmpFunc_choose_measured [.own 0 6 0 L r, I P, I (P + a1.length : Nat), I (P + h : Nat), .fn g [] [.ptr 1 0]] [(0, .row 6 true ((p ++ a1 ++ b1 ++ (a2 ++ b2 ++ q)).map row_choose_measured)), (1, .box [Bo cdn])] (.tp []) [(0, .row 6 true ((p ++ mrg (lt_choose_measured c) a1 b1 ++ (a2 ++ b2 ++ q)).map row_choose_measured)), (1, .box [Bo cdn])] := by
    intro n1 n2
    have := ih p a1 b1 (a2 ++ b2 ++ q) (by rw [hab, hal, hbl]; exact hhn) n1 n2 (fun x hx => ha x (by simp [hx])) (fun x hx => hb x (by simp [hx])) sa'.1 sb'.1 (hL.trans (len_swap ..))
    rw [hP, ← y2] at this
    exact this
   have i2 : a2 ≠ [] → b2 ≠ [] → Meets Tryz.prog E0 n_slices_symMergeCmpFunc_choose_measured [.own 0 6 0 L r, I (P + h : Nat), I (M + b1.length : Nat), I N, .fn g [] [.ptr 1 0]] [(0, .row 6 true ((p ++ mrg (lt_choose_measured c) a1 b1 ++ (a2 ++ b2 ++ q)).map row_choose_measured)), (1, .box [Bo cdn])] (.tp []) [(0, .row 6 true ((p ++ (mrg (lt_choose_measured c) a1 b1 ++ mrg (lt_choose_measured c) a2 b2) ++ q).map row_choose_measured)), (1, .box [Bo cdn])] := by
    intro n1 n2
    have n3 := List.length_pos_iff.2 n1
    have n4 := List.length_pos_iff.2 n2
    have := ih (p ++ mrg (lt_choose_measured c) a1 b1) a2 b2 q (by rw [hal, hbl]; clear hNL hLb hN hM y1 y2 y3 y4 hhn; omega) n1 n2 (fun x hx => ha x (by simp [hx])) (fun x hx => hb x (by simp [hx])) sa'.2.1 sb'.2.1 (hL.trans (len_swap2 (lt_choose_measured c) ..))
    rw [show (p ++ mrg (lt_choose_measured c) a1 b1).length = P + h by rw [List.length_append, hP, l1], ← y3, ← y4] at this
    rw [show p ++ mrg (lt_choose_measured c) a1 b1 ++ (a2 ++ b2 ++ q) = p ++ mrg (lt_choose_measured c) a1 b1 ++ a2 ++ b2 ++ q by simp, show p ++ (mrg (lt_choose_measured c) a1 b1 ++ mrg (lt_choose_measured c) a2 b2) ++ q = p ++ mrg (lt_choose_measured c) a1 b1 ++ mrg (lt_choose_measured c) a2 b2 ++ q by simp]
    exact this
   have r1 : a2 = [] ∨ b1 = [] → p ++ (a1 ++ a2) ++ (b1 ++ b2) ++ q = p ++ a1 ++ b1 ++ (a2 ++ b2 ++ q) := by rintro (e | e) <;> simp [e]
   have r2 : a1 = [] ∨ b1 = [] → p ++ a1 ++ b1 ++ (a2 ++ b2 ++ q) = p ++ mrg (lt_choose_measured c) a1 b1 ++ (a2 ++ b2 ++ q) := fun e => by rw [mrg_none _ e]; simp
   have r3 : a2 = [] ∨ b2 = [] → p ++ mrg (lt_choose_measured c) a1 b1 ++ (a2 ++ b2 ++ q) = p ++ (mrg (lt_choose_measured c) a1 b1 ++ mrg (lt_choose_measured c) a2 b2) ++ q := fun e => by rw [mrg_none (a := a2) _ e]; simp
   have E : ∀ {l : List (Ser × Option Int)}, l.isEmpty = true → l = [] := List.isEmpty_iff.1
   have NE : ∀ {l : List (Ser × Option Int)}, l.isEmpty = false → l ≠ [] := fun h e => by rw [e] at h; cases h
   clear ih sa' sb' hL hLb ha hb hc
   simp only [go_sem, s_slices_symMergeCmpFunc_choose_measured_b6, d3]
   refine sym_tail_choose_measured _ _ _ _ g L r cdn P M N (P + a1.length) (M + b1.length) (P + h) (P + h + M) (p ++ (a1 ++ a2) ++ (b1 ++ b2) ++ q) _ _ _ a1.isEmpty a2.isEmpty b1.isEmpty b2.isEmpty rfl rfl rfl rfl rfl rfl rfl rfl ee x1 x2 x3 x4 x5 x6
    (fun h1 h2 => hr (NE h1) (NE h2)) (fun h1 h2 => i1 (NE h1) (NE h2)) (fun h1 h2 => i2 (NE h1) (NE h2)) (fun h => r1 ((Bool.or_eq_true_iff.1 h).imp E E)) (fun h => r2 ((Bool.or_eq_true_iff.1 h).imp E E)) (fun h => r3 ((Bool.or_eq_true_iff.1 h).imp E E)) (fun env tl => ?_)
   simp only [go_sem]
   refine wO [] [] ?_
   simp only [go_sem, r_slices_symMergeCmpFunc_choose_measured, exists_eq_left', Option.some.injEq]
   simp [wkV, wkL, slTrees, AV.asOwn, rowPart, stoOf, AV.isNil, shA, rowsT, cellsT, cellT, ren]

end Go.Proofs.YtgmpceijcdimkaaGreatDoor
namespace Go.Proofs.YtgmpceijcdimkaaGreatDoor
open Go Go.Sx

theorem f_sym_choose_measured (g L : Nat) (r : Bool) (cdn : Bool) (c : (Ser × Option Int) → (Ser × Option Int) → Int) (D : (Ser × Option Int) → Prop) (hc : ∀ x y, D x → D y → Meets Tryz.prog E0 g ([(.ag [Str (toB (x).1.1), I (x).1.2.1, I (x).1.2.2.1, numL (x).1.2.2.2, Bo (x).2.isNone, I ((x).2.getD 0)]), (.ag [Str (toB (y).1.1), I (y).1.2.1, I (y).1.2.2.1, numL (y).1.2.2.2, Bo (y).2.isNone, I ((y).2.getD 0)])] ++ [.ptr 1 0]) [(1, .box [Bo cdn])] (I (c x y)) [(1, .box [Bo cdn])]) (hO : Below3 (lt_choose_measured c)) (hLb : L ≤ 281474976710656) (n : Nat) :
  ∀ (p a b q : List (Ser × Option Int)), a.length + b.length = n → a ≠ [] → b ≠ [] → (∀ x ∈ a, D x) → (∀ x ∈ b, D x) → Srt (lt_choose_measured c) a → Srt (lt_choose_measured c) b → L = (p ++ a ++ b ++ q).length →
  Meets Tryz.prog E0 n_slices_symMergeCmpFunc_choose_measured [.own 0 6 0 L r, I p.length, I (p.length + a.length : Nat), I (p.length + a.length + b.length : Nat), .fn g [] [.ptr 1 0]] [(0, .row 6 true ((p ++ a ++ b ++ q).map row_choose_measured)), (1, .box [Bo cdn])] (.tp []) [(0, .row 6 true ((p ++ mrg (lt_choose_measured c) a b ++ q).map row_choose_measured)), (1, .box [Bo cdn])] := by
 induction n using Nat.strongRecOn with
 | _ n ih =>
  intro p a b q hn ha0 hb0 ha hb sa sb hL
  by_cases h1 : a.length = 1
  ·obtain ⟨x, rfl⟩ := List.length_eq_one_iff.1 h1
   exact f_sym1_choose_measured g L r cdn c D hc hO p b q x (ha x (by simp)) hb sb hL hLb
  ·by_cases h2 : b.length = 1
   ·obtain ⟨y, rfl⟩ := List.length_eq_one_iff.1 h2
    exact f_sym2_choose_measured g L r cdn c D hc hO p a q y h1 ha0 (hb y (by simp)) ha sa hL hLb
   ·exact f_sym3_choose_measured g L r cdn c D hc hO p a b q h1 ha0 h2 hb0 ha hb sa sb hL hLb fun p' a' b' q' hlt => ih _ (by omega) p' a' b' q' rfl

theorem chk_pieces_choose_measured {lt : (Ser × Option Int) → (Ser × Option Int) → Bool} (hO : Below3 lt) {s : Nat} {l : List (Ser × Option Int)} (h0 : 0 < s) (h : 2 * s ≤ l.length) : chk lt s l = isrt lt (l.take s) ++ isrt lt ((l.drop s).take s) ++ chk lt s (l.drop (2 * s)) ∧ mrg lt (isrt lt (l.take s)) (isrt lt ((l.drop s).take s)) = isrt lt (l.take (2 * s)) ∧ chk lt (2 * s) l = isrt lt (l.take (2 * s)) ++ chk lt (2 * s) (l.drop (2 * s)) := by
 refine ⟨?_, ?_, chk_gt lt (by omega) h⟩
 ·rw [chk_gt lt h0 (by omega), chk_gt lt h0 (l := l.drop s) (by rw [List.length_drop]; omega), List.drop_drop, show s + s = 2 * s by omega, List.append_assoc]
 ·rw [mrg_isrt hO, show l.take (2 * s) = l.take s ++ (l.drop s).take s by rw [show 2 * s = s + s by omega, List.take_add]]

theorem chk_last_choose_measured {lt : (Ser × Option Int) → (Ser × Option Int) → Bool} (hO : Below3 lt) {s : Nat} {l : List (Ser × Option Int)} (h0 : 0 < s) (h1 : s < l.length) (h : l.length < 2 * s) : chk lt s l = isrt lt (l.take s) ++ isrt lt (l.drop s) ∧ mrg lt (isrt lt (l.take s)) (isrt lt (l.drop s)) = isrt lt l ∧ chk lt (2 * s) l = isrt lt l := by
 refine ⟨?_, ?_, chk_le lt (by omega)⟩
 ·rw [chk_gt lt h0 (by omega), chk_le lt (l := l.drop s) (by rw [List.length_drop]; omega)]
 ·rw [mrg_isrt hO, List.take_append_drop]

set_option maxHeartbeats 2000000 in
theorem f_stable_choose_measured (g L : Nat) (r : Bool) (cdn : Bool) (c : (Ser × Option Int) → (Ser × Option Int) → Int) (D : (Ser × Option Int) → Prop) (hc : ∀ x y, D x → D y → Meets Tryz.prog E0 g ([(.ag [Str (toB (x).1.1), I (x).1.2.1, I (x).1.2.2.1, numL (x).1.2.2.2, Bo (x).2.isNone, I ((x).2.getD 0)]), (.ag [Str (toB (y).1.1), I (y).1.2.1, I (y).1.2.2.1, numL (y).1.2.2.2, Bo (y).2.isNone, I ((y).2.getD 0)])] ++ [.ptr 1 0]) [(1, .box [Bo cdn])] (I (c x y)) [(1, .box [Bo cdn])]) (hO : Below3 (lt_choose_measured c)) (hLb : L ≤ 281474976710656)
  (l : List (Ser × Option Int)) (hL : L = l.length) (hD : ∀ x ∈ l, D x) :
  Meets Tryz.prog E0 n_slices_stableCmpFunc_choose_measured [.own 0 6 0 L r, I L, .fn g [] [.ptr 1 0]] [(0, .row 6 true (l.map row_choose_measured)), (1, .box [Bo cdn])] (.tp []) [(0, .row 6 true ((isrt (lt_choose_measured c) l).map row_choose_measured)), (1, .box [Bo cdn])] := by
 refine m_slices_stableCmpFunc_choose_measured (by simp) (shut_of (by simp [idsL, AV.ids, keysOf]) (by simp [Ob.live, Ob.ids, keysOf, idsL, AV.ids])) (shut_of (by simp [idsL, AV.ids, keysOf]) (by simp [Ob.live, Ob.ids, keysOf, idsL, AV.ids])) (by simp [keysOf]) (by simp [keysOf]) ?_
 simp only [go_sem, s_slices_stableCmpFunc_choose_measured]
 refine W_loop (fun s : List (Ser × Option Int) × List (Ser × Option Int) => s.2.length) (fun s => s.1.length + s.2.length = L ∧ (∀ x ∈ s.2, x ∈ l) ∧ s.1 ++ chk (lt_choose_measured c) 20 s.2 = chk (lt_choose_measured c) 20 l)
  (fun s => [(0, .own 0 6 0 L r), (1, I L), (2, .fn g [] [.ptr 1 0]), (6, I 20), (7, I s.1.length), (8, I (s.1.length + 20 : Nat))])
  (fun s => [(0, .row 6 true ((s.1 ++ s.2).map row_choose_measured)), (1, .box [Bo cdn])]) ([], l) ⟨by simp [hL], fun x h => h, rfl⟩ (sR [] []) ?_
 rintro ⟨dn, rs⟩ ⟨hs1, hs2, hs3⟩
 simp only at hs1 hs2 hs3 ⊢
 by_cases hlt : dn.length + 20 ≤ L
 ·have d1 : decide (dn.length + 20 ≤ L) = true := decide_eq_true hlt
  have hk : (rs.take 20).length = 20 := by rw [List.length_take]; omega
  have h := f_insertion_choose_measured g L r cdn c D hc dn (rs.take 20) (rs.drop 20) (fun x hx => hD x (hs2 x (List.mem_of_mem_take hx))) (by rw [List.append_assoc, List.take_append_drop, List.length_append, hs1]) hLb
  rw [hk, List.append_assoc, List.take_append_drop] at h
  rw [chk_gt _ (by decide) (by omega), ← List.append_assoc] at hs3
  have ei : IntKind.i64.wrap (((dn.length + 20 : Nat) : Int) + 20) = ((dn.length + 20 + 20 : Nat) : Int) := wadd (y := 20) rfl (by omega)
  simp only [go_sem, d1]
  refine oB (h) ?_
  simp only [go_sem, ei]
  refine rd_of (dn ++ isrt (lt_choose_measured c) (rs.take 20), rs.drop 20) (by simp only [List.length_drop]; omega) ⟨by simp only [List.length_append, isrt_len, hk, List.length_drop]; omega, fun x hx => hs2 x (List.mem_of_mem_drop hx), hs3⟩ ?_
  have hl1 : (dn ++ isrt (lt_choose_measured c) (rs.take 20)).length = dn.length + 20 := by rw [List.length_append, isrt_len, hk]
  simp only [hl1]
  exact (sR [] [])
 ·have d1 : decide (dn.length + 20 ≤ L) = false := decide_eq_false hlt
  have h := f_insertion_choose_measured g L r cdn c D hc dn rs [] (fun x hx => hD x (hs2 x hx)) (by rw [List.append_nil, List.length_append, hs1]) hLb
  rw [hs1, List.append_nil, List.append_nil, ← chk_le (lt_choose_measured c) (show rs.length ≤ 20 by omega), hs3] at h
  clear hs3
  simp only [go_sem, d1]
  refine oB (h) ?_
  simp only [go_sem]
  refine W_loop (fun s : Nat => L - s) (fun s => 0 < s ∧ s ≤ 2 * L + 20)
   (fun s => [(0, .own 0 6 0 L r), (1, I L), (2, .fn g [] [.ptr 1 0]), (6, I s)])
   (fun s => [(0, .row 6 true ((chk (lt_choose_measured c) s l).map row_choose_measured)), (1, .box [Bo cdn])]) 20 ⟨by decide, by omega⟩ (sR [] []) ?_
  clear h d1 hlt hs1 hs2
  clear dn rs
  rintro s ⟨hs0, hs1⟩
  by_cases hsl : s < L
  ·have d1 : decide (s < L) = true := decide_eq_true hsl
   have e2 : IntKind.i64.wrap ((2 : Int) * (s : Int)) = ((2 * s : Nat) : Int) := by rw [wrap_i64_of (by omega) (by omega)]; omega
   have e2' : IntKind.i64.wrap ((s : Int) * (2 : Int)) = ((2 * s : Nat) : Int) := by rw [wrap_i64_of (by omega) (by omega)]; omega
   simp only [go_sem, d1, e2]
   refine W_loop (fun s : List (Ser × Option Int) × List (Ser × Option Int) => s.2.length) (fun t => t.1.length + t.2.length = L ∧ (∀ x ∈ t.2, x ∈ l) ∧ t.1 ++ chk (lt_choose_measured c) (2 * s) t.2 = chk (lt_choose_measured c) (2 * s) l)
    (fun t => [(0, .own 0 6 0 L r), (1, I L), (2, .fn g [] [.ptr 1 0]), (6, I s), (7, I t.1.length), (8, I (t.1.length + 2 * s : Nat))])
    (fun t => [(0, .row 6 true ((t.1 ++ chk (lt_choose_measured c) s t.2).map row_choose_measured)), (1, .box [Bo cdn])]) ([], l) ⟨by simp [hL], fun x h => h, rfl⟩ ?_ ?_
   ·simp only [List.length_nil, List.nil_append, Nat.zero_add]
    exact (sR [] [])
   rintro ⟨dn, rs⟩ ⟨hs1, hs2, hs3⟩
   simp only at hs1 hs2 hs3 ⊢
   by_cases hlt : dn.length + 2 * s ≤ L
   ·have d2 : decide (dn.length + 2 * s ≤ L) = true := decide_eq_true hlt
    obtain ⟨k1, k2, k3⟩ := chk_pieces_choose_measured hO hs0 (l := rs) (by omega)
    have l1 : (isrt (lt_choose_measured c) (rs.take s)).length = s := by rw [isrt_len, List.length_take]; omega
    have l2 : (isrt (lt_choose_measured c) ((rs.drop s).take s)).length = s := by rw [isrt_len, List.length_take, List.length_drop]; omega
    have l3 : (isrt (lt_choose_measured c) (rs.take (2 * s))).length = 2 * s := by rw [isrt_len, List.length_take]; omega
    have n1 : isrt (lt_choose_measured c) (rs.take s) ≠ [] := fun e => by rw [e, List.length_nil] at l1; omega
    have n2 : isrt (lt_choose_measured c) ((rs.drop s).take s) ≠ [] := fun e => by rw [e, List.length_nil] at l2; omega
    have h := f_sym_choose_measured g L r cdn c D hc hO hLb _ dn (isrt (lt_choose_measured c) (rs.take s)) (isrt (lt_choose_measured c) ((rs.drop s).take s)) (chk (lt_choose_measured c) s (rs.drop (2 * s))) rfl n1 n2
     (fun x hx => hD x (hs2 x (List.mem_of_mem_take ((isrt_mem _ _ _).1 hx)))) (fun x hx => hD x (hs2 x (List.mem_of_mem_drop (List.mem_of_mem_take ((isrt_mem _ _ _).1 hx))))) (isrt_srt hO _) (isrt_srt hO _)
     (by simp only [List.length_append, l1, l2, chk_len, List.length_drop]; omega)
    rw [l1, l2, k2, show dn ++ isrt (lt_choose_measured c) (rs.take s) ++ isrt (lt_choose_measured c) ((rs.drop s).take s) ++ chk (lt_choose_measured c) s (rs.drop (2 * s)) = dn ++ chk (lt_choose_measured c) s rs by rw [k1]; simp only [List.append_assoc], show dn.length + s + s = dn.length + 2 * s by omega] at h
    rw [k3, ← List.append_assoc] at hs3
    have e3 : IntKind.i64.wrap ((dn.length : Int) + (s : Int)) = ((dn.length + s : Nat) : Int) := wadd rfl (by omega)
    have e4 : IntKind.i64.wrap (((dn.length + 2 * s : Nat) : Int) + ((2 * s : Nat) : Int)) = ((dn.length + 2 * s + 2 * s : Nat) : Int) := wadd rfl (by omega)
    simp only [go_sem, d2, e3]
    refine oB (h) ?_
    simp only [go_sem, e2, e4]
    refine rd_of (dn ++ isrt (lt_choose_measured c) (rs.take (2 * s)), rs.drop (2 * s)) (by simp only [List.length_drop]; omega) ⟨by simp only [List.length_append, l3, List.length_drop]; omega, fun x hx => hs2 x (List.mem_of_mem_drop hx), hs3⟩ ?_
    have hl1 : (dn ++ isrt (lt_choose_measured c) (rs.take (2 * s))).length = dn.length + 2 * s := by rw [List.length_append, l3]
    simp only [hl1]
    exact (sR [] [])
   ·have d2 : decide (dn.length + 2 * s ≤ L) = false := decide_eq_false hlt
    have e3 : IntKind.i64.wrap ((dn.length : Int) + (s : Int)) = ((dn.length + s : Nat) : Int) := wadd rfl (by omega)
    by_cases hl3 : dn.length + s < L
    ·have d3 : decide (dn.length + s < L) = true := decide_eq_true hl3
     obtain ⟨k1, k2, k3⟩ := chk_last_choose_measured hO hs0 (l := rs) (by omega) (by omega)
     have l1 : (isrt (lt_choose_measured c) (rs.take s)).length = s := by rw [isrt_len, List.length_take]; omega
     have l2 : (isrt (lt_choose_measured c) (rs.drop s)).length = rs.length - s := by rw [isrt_len, List.length_drop]
     have n1 : isrt (lt_choose_measured c) (rs.take s) ≠ [] := fun e => by rw [e, List.length_nil] at l1; omega
     have n2 : isrt (lt_choose_measured c) (rs.drop s) ≠ [] := fun e => by rw [e, List.length_nil] at l2; omega
     have h := f_sym_choose_measured g L r cdn c D hc hO hLb _ dn (isrt (lt_choose_measured c) (rs.take s)) (isrt (lt_choose_measured c) (rs.drop s)) [] rfl n1 n2
      (fun x hx => hD x (hs2 x (List.mem_of_mem_take ((isrt_mem _ _ _).1 hx)))) (fun x hx => hD x (hs2 x (List.mem_of_mem_drop ((isrt_mem _ _ _).1 hx)))) (isrt_srt hO _) (isrt_srt hO _)
      (by simp only [List.length_append, l1, l2, List.length_nil]; omega)
     rw [k3] at hs3
     rw [l1, l2, k2, List.append_nil, List.append_nil, hs3, show dn ++ isrt (lt_choose_measured c) (rs.take s) ++ isrt (lt_choose_measured c) (rs.drop s) = dn ++ chk (lt_choose_measured c) s rs by rw [k1]; simp only [List.append_assoc], show dn.length + s + (rs.length - s) = L by omega] at h
     simp only [go_sem, d2, e3, d3]
     refine oB (h) ?_
     simp only [go_sem, e2']
     exact rd_of (2 * s) (by first | omega | (simp only; omega)) ⟨by omega, by omega⟩ (sR [] [])
    ·have d3 : decide (dn.length + s < L) = false := decide_eq_false hl3
     rw [chk_le _ (by omega)] at hs3
     rw [chk_le (lt_choose_measured c) (s := s) (l := rs) (by omega), hs3]
     simp only [go_sem, d2, e3, d3, e2']
     exact rd_of (2 * s) (by first | omega | (simp only; omega)) ⟨by omega, by omega⟩ (sR [] [])
  ·have d1 : decide (s < L) = false := decide_eq_false hsl
   rw [chk_le (lt_choose_measured c) (s := s) (by omega)]
   simp only [go_sem, d1]
   refine wO [] [] ?_
   simp only [go_sem, r_slices_stableCmpFunc_choose_measured, exists_eq_left', Option.some.injEq]
   simp [wkV, wkL, slTrees, AV.asOwn, rowPart, stoOf, AV.isNil, shA, rowsT, cellsT, cellT, ren]

theorem f_SortStable_choose_measured (g L : Nat) (r : Bool) (cdn : Bool) (c : (Ser × Option Int) → (Ser × Option Int) → Int) (D : (Ser × Option Int) → Prop) (hc : ∀ x y, D x → D y → Meets Tryz.prog E0 g ([(.ag [Str (toB (x).1.1), I (x).1.2.1, I (x).1.2.2.1, numL (x).1.2.2.2, Bo (x).2.isNone, I ((x).2.getD 0)]), (.ag [Str (toB (y).1.1), I (y).1.2.1, I (y).1.2.2.1, numL (y).1.2.2.2, Bo (y).2.isNone, I ((y).2.getD 0)])] ++ [.ptr 1 0]) [(1, .box [Bo cdn])] (I (c x y)) [(1, .box [Bo cdn])]) (hO : Below3 (lt_choose_measured c)) (hLb : L ≤ 281474976710656)
  (l : List (Ser × Option Int)) (hL : L = l.length) (hD : ∀ x ∈ l, D x) :
  Meets Tryz.prog E0 n_slices_SortStableFunc_Schoose_measured_choose_measured [.own 0 6 0 L r, .fn g [] [.ptr 1 0]] [(0, .row 6 true (l.map row_choose_measured)), (1, .box [Bo cdn])] (.tp []) [(0, .row 6 true ((isrt (lt_choose_measured c) l).map row_choose_measured)), (1, .box [Bo cdn])] := by
 refine m_slices_SortStableFunc_Schoose_measured_choose_measured (by simp) (shut_of (by simp [idsL, AV.ids, keysOf]) (by simp [Ob.live, Ob.ids, keysOf, idsL, AV.ids])) (shut_of (by simp [idsL, AV.ids, keysOf]) (by simp [Ob.live, Ob.ids, keysOf, idsL, AV.ids])) (by simp [keysOf]) (by simp [keysOf]) ?_
 have h := f_stable_choose_measured g L r cdn c D hc hO hLb l hL hD
 simp only [go_sem, s_slices_SortStableFunc_Schoose_measured_choose_measured]
 refine oB (h) ?_
 simp only [go_sem]
 refine wO [] [] ?_
 simp only [go_sem, r_slices_SortStableFunc_Schoose_measured_choose_measured, exists_eq_left', Option.some.injEq]
 simp [wkV, wkL, slTrees, AV.asOwn, rowPart, stoOf, AV.isNil, shA, rowsT, cellsT, cellT, ren]

end Go.Proofs.YtgmpceijcdimkaaGreatDoor
namespace Go.Proofs.YtgmpceijcdimkaaGreatDoor
open Go Go.Sx

theorem f_insertion0_choose_measured (g : Nat) (cdn : Bool) : Meets Tryz.prog E0 n_slices_insertionSortCmpFunc_choose_measured [.t (.sl 6 []), I 0, I 0, .fn g [] [.ptr 1 0]] [(1, .box [Bo cdn])] (.tp []) [(1, .box [Bo cdn])] := by
 refine m_slices_insertionSortCmpFunc_choose_measured (by simp) (shut_of (by simp [idsL, AV.ids, keysOf]) (by simp [Ob.live, Ob.ids, keysOf, idsL, AV.ids])) (shut_of (by simp [idsL, AV.ids, keysOf]) (by simp [Ob.live, Ob.ids, keysOf, idsL, AV.ids])) (by simp [keysOf]) (by simp [keysOf]) ?_
 have e1 : IntKind.i64.wrap (0 + 1) = 1 := by decide
 have d1 : decide ((1 : Int) < 0) = false := rfl
 simp only [go_sem, s_slices_insertionSortCmpFunc_choose_measured, e1]
 refine W_loop (fun _ : Unit => 0) (fun _ => True) (fun _ => [(0, .t (.sl 6 [])), (1, I 0), (2, I 0), (3, .fn g [] [.ptr 1 0]), (8, I 1)]) (fun _ => [(1, .box [Bo cdn])]) () trivial (sR [] []) ?_
 intro _ _
 simp only [go_sem, d1]
 refine wO [] [] ?_
 simp only [go_sem, r_slices_insertionSortCmpFunc_choose_measured, exists_eq_left', Option.some.injEq]
 simp [wkV, wkL, slTrees, AV.asOwn, rowPart, stoOf, AV.isNil, shA, rowsT, cellsT, cellT, ren]

theorem f_stable0_choose_measured (g : Nat) (cdn : Bool) : Meets Tryz.prog E0 n_slices_stableCmpFunc_choose_measured [.t (.sl 6 []), I 0, .fn g [] [.ptr 1 0]] [(1, .box [Bo cdn])] (.tp []) [(1, .box [Bo cdn])] := by
 refine m_slices_stableCmpFunc_choose_measured (by simp) (shut_of (by simp [idsL, AV.ids, keysOf]) (by simp [Ob.live, Ob.ids, keysOf, idsL, AV.ids])) (shut_of (by simp [idsL, AV.ids, keysOf]) (by simp [Ob.live, Ob.ids, keysOf, idsL, AV.ids])) (by simp [keysOf]) (by simp [keysOf]) ?_
 have h := f_insertion0_choose_measured g cdn
 have d1 : decide ((20 : Int) ≤ 0) = false := rfl
 have d2 : decide ((20 : Int) < 0) = false := rfl
 simp only [go_sem, s_slices_stableCmpFunc_choose_measured]
 refine W_loop (fun _ : Unit => 0) (fun _ => True) (fun _ => [(0, .t (.sl 6 [])), (1, I 0), (2, .fn g [] [.ptr 1 0]), (6, I 20), (7, I 0), (8, I 20)]) (fun _ => [(1, .box [Bo cdn])]) () trivial (sR [] []) ?_
 intro _ _
 simp only [go_sem, d1]
 refine oB (h) ?_
 simp only [go_sem]
 refine W_loop (fun _ : Unit => 0) (fun _ => True) (fun _ => [(0, .t (.sl 6 [])), (1, I 0), (2, .fn g [] [.ptr 1 0]), (6, I 20)]) (fun _ => [(1, .box [Bo cdn])]) () trivial (sR [] []) ?_
 intro _ _
 simp only [go_sem, d2]
 refine wO [] [] ?_
 simp only [go_sem, r_slices_stableCmpFunc_choose_measured, exists_eq_left', Option.some.injEq]
 simp [wkV, wkL, slTrees, AV.asOwn, rowPart, stoOf, AV.isNil, shA, rowsT, cellsT, cellT, ren]

theorem f_SortStable0_choose_measured (g : Nat) (cdn : Bool) : Meets Tryz.prog E0 n_slices_SortStableFunc_Schoose_measured_choose_measured [.t (.sl 6 []), .fn g [] [.ptr 1 0]] [(1, .box [Bo cdn])] (.tp []) [(1, .box [Bo cdn])] := by
 refine m_slices_SortStableFunc_Schoose_measured_choose_measured (by simp) (shut_of (by simp [idsL, AV.ids, keysOf]) (by simp [Ob.live, Ob.ids, keysOf, idsL, AV.ids])) (shut_of (by simp [idsL, AV.ids, keysOf]) (by simp [Ob.live, Ob.ids, keysOf, idsL, AV.ids])) (by simp [keysOf]) (by simp [keysOf]) ?_
 have h := f_stable0_choose_measured g cdn
 simp only [go_sem, s_slices_SortStableFunc_Schoose_measured_choose_measured]
 refine oB (h) ?_
 simp only [go_sem]
 refine wO [] [] ?_
 simp only [go_sem, r_slices_SortStableFunc_Schoose_measured_choose_measured, exists_eq_left', Option.some.injEq]
 simp [wkV, wkL, slTrees, AV.asOwn, rowPart, stoOf, AV.isNil, shA, rowsT, cellsT, cellT, ren]

end Go.Proofs.YtgmpceijcdimkaaGreatDoor
namespace Go.Proofs.YtgmpceijcdimkaaGreatDoor
open Go Go.Sx

/-- A series with its measure. -/
def mesM (call : List UInt8) (s : Ser) : Ser × Option Int := (s, reckM (wayR call) s.2.2.2)
def ordP (down : Bool) (x y : Ser × Option Int) : Int := ordM x.2 y.2 down
def ordLt (down : Bool) (x y : Ser × Option Int) : Bool := decide (ordM x.2 y.2 down < 0)
def sortedM (call : List UInt8) (l : List Ser) (down : Bool) : List Ser := (isrt (ordLt down) (l.map (mesM call))).map (·.1)

theorem ord_lt (down : Bool) : lt_choose_measured (ordP down) = ordLt down := rfl

theorem ord_below (down : Bool) : Below3 (ordLt down) where
 asym := fun a b h => by
  unfold ordLt at *
  have h := of_decide_eq_true h
  refine decide_eq_false ?_
  generalize a.2 = x at *
  generalize b.2 = y at *
  revert h
  unfold ordM
  cases x <;> cases y <;> simp only <;> (try (intro h; omega))
  cases down
  ·simp only [Bool.false_eq_true, if_false]
   split <;> (try split) <;> intro h <;> (try split) <;> (try split) <;> omega
  ·simp only [if_true]
   split <;> (try split) <;> intro h <;> (try split) <;> (try split) <;> omega
 tr := fun a b c h1 h2 => by
  unfold ordLt at *
  have h1 := of_decide_eq_false h1
  have h2 := of_decide_eq_false h2
  refine decide_eq_false ?_
  generalize a.2 = x at *
  generalize b.2 = y at *
  generalize c.2 = z at *
  revert h1 h2
  unfold ordM
  cases x <;> cases y <;> cases z <;> simp only <;> (try (intro h1 h2; omega))
  cases down
  ·simp only [Bool.false_eq_true, if_false]
   intro h1 h2
   split at h1 <;> split at h2 <;> (try split at h1) <;> (try split at h2) <;> split <;> (try split) <;> omega
  ·simp only [if_true]
   intro h1 h2
   split at h1 <;> split at h2 <;> (try split at h1) <;> (try split at h2) <;> split <;> (try split) <;> omega

def zeroSer : List T := [.v (.string (bs [])), .v (.int .i64 0), .v (.int .i64 0), .v (.slice none 0 0)]

theorem reck_rt {w : Int} {l : List Num} (h : ∀ n ∈ l, inN n) : Rt (reckM w l) := by
 have hk := kv_in h
 unfold reckM reckK
 generalize kvM l = k at *
 split
 ·exact rt_none
 ·split
  ·unfold divM
   split
   ·unfold quoM
    split
    ·exact rt_none
    ·exact fun z hz => sgn_range hz
   ·exact rt_none
  ·split
   ·exact rt_gat (fun a b _ _ => rt_add a b) k hk
   ·split
    ·exact rt_gat (fun a b ha hb => rt_less ha hb) k hk
    ·split
     ·exact rt_gat (fun a b ha hb => rt_more ha hb) k hk
     ·split
      ·intro z hz
       exact hk z (List.mem_of_getLast? hz)
      ·exact rt_none

set_option maxHeartbeats 2000000 in
theorem f_choose_sorted (call : List UInt8) (l : List Ser) (down : Bool) (hcl : call.length ≤ 1000000000) (hl : l.length ≤ 1000000) (hv : ∀ s ∈ l, s.2.2.2.length ≤ 100000 ∧ inS s) : Meets Tryz.prog E0 n_choose_sorted [Str (toB call), serL l, Bo down] [] (serL (sortedM call l down)) [] := by
 refine st0 m_choose_sorted ?_
 have hlen : (l.map seT).length = l.length := by simp
 simp only [go_sem, s_choose_sorted, hlen]
 refine W_loop (fun i : Nat => l.length - i) (fun i => i ≤ l.length)
  (fun i => [(0, Str (toB call)), (5, .ptr 100 0), (7, .own 999 6 0 (l.take i).length (!(l.take i).isEmpty)), (13, serL l), (14, I l.length), (15, I i)])
  (fun i => [(100, .box [Bo down]), (999, .row 6 (!(l.take i).isEmpty) (((l.take i).map (mesM call)).map row_choose_measured))]) 0 (Nat.zero_le _) ?_ ?_
 ·simp only [List.take_zero, List.map_nil, List.length_nil, List.isEmpty_nil, Bool.not_true]
  exact (sR [(999, 888)] [])
 intro i hi
 by_cases hil : i < l.length
 ·have d0 : decide (i < l.length) = true := decide_eq_true hil
  obtain ⟨s, hs⟩ := get_of_lt hil
  have hsv := hv s (List.mem_of_getElem? hs)
  have hM := f_choose_Measure call hcl s hsv.1 hsv.2
  have hg : (l.map seT)[i]? = some [.v (.string (toB s.1)), .v (.int .i64 s.2.1), .v (.int .i64 s.2.2.1), .sl 2 (s.2.2.2.map numT)] := by rw [List.getElem?_map, hs]; rfl
  have ei : IntKind.i64.wrap ((i : Int) + 1) = ((i + 1 : Nat) : Int) := by rw [wrap_i64_of (by omega) (by omega)]; omega
  have htk : (l.take (i + 1)) = l.take i ++ [s] := by rw [List.take_add_one, hs]; rfl
  have hil2 : (l.take i).length = i := by rw [List.length_take]; omega
  have b4 : (i + 1) * 72 ≤ 2 ^ 47 := by omega
  have b5 : i + 1 < 2 ^ 47 := by omega
  have hml : (((l.take i).map (mesM call)).map row_choose_measured).length = i := by rw [List.length_map, List.length_map]; exact hil2
  have em : ((l.take i).map (mesM call)).map row_choose_measured ++ [[.v (.string (toB s.1)), .v (.int .i64 s.2.1), .v (.int .i64 s.2.2.1), .sl 2 (s.2.2.2.map numT), .v (.bool (reckM (wayR call) s.2.2.2).isNone), .v (.int .i64 ((reckM (wayR call) s.2.2.2).getD 0))]] = ((l.take i ++ [s]).map (mesM call)).map row_choose_measured := by simp [mesM, row_choose_measured]
  simp only [go_sem, d0, hg]
  refine Cl_plain hM ?_
  simp only [go_sem, hil2, b4, b5, hml, em, ei]
  ((try (with_reducible refine rF ?_)); (try simp only [go_sem, hil2, b4, b5, hml, em, ei]))
  refine rd_of (i + 1) (by first | omega | (simp only; omega)) hil ?_
  simp only [htk, List.length_append, List.length_cons, List.length_nil, Nat.zero_add, hil2, show (l.take i ++ [s]).isEmpty = false from by simp, Bool.not_false]
  exact (sR [(999, 118)] [])
 ·obtain rfl : i = l.length := by omega
  have d0 : decide (l.length < l.length) = false := decide_eq_false (by omega)
  rw [List.take_length]
  unfold sortedM
  cases l with
  | nil =>
   have h := (f_SortStable0_choose_measured n_choose_sorted_1 down).ren (fun _ => 100) (by simp [keysOf])
   simp only [renL, renA, renS, renO] at h
   simp only [List.map_nil, isrt_nil]
   simp only [go_sem, d0]
   refine Cl_io [] false h (.one (Wk.gone (by simp [slTrees, AV.asOwn, rowPart, stoOf]) (by simp [stoOf]; rfl)) (.one (Wk.refl _) .nil)) (by simp [keysOf, stoOf]) (by simp [keysOf]) (by simp) (by simp) (by simp [keysOf]) ?_
   have b1 : ((0 : Nat) : Int) < 2 ^ 47 := by decide
   have b2 : ((56 : Nat) : Int) * ((0 : Nat) : Int) ≤ 2 ^ 48 := by decide
   have d2 : decide (((0 : Nat) : Int) < ((0 : Nat) : Int)) = false := rfl
   have d3 : decide (0 < 0) = false := rfl
   have d4 : decide ((0 : Int) < ((0 : Nat) : Int)) = false := rfl
   have d5 : decide ((0 : Int) < 0) = false := rfl
   simp only [go_sem, froze, b1, b2]
   refine W_loop (fun _ : Unit => 0) (fun _ => True) (fun _ => [(10, .own 127 4 0 0 true), (35, I (0 : Nat)), (36, I 0)]) (fun _ => [(127, .row 4 true [])]) () trivial (sR [] []) ?_
   intro _ _
   simp only [go_sem, d2, d3, d4, d5]
   refine wS [127] ?_
   simp only [go_sem, r_choose_sorted, exists_eq_left', Option.some.injEq]
   simp [wkV, wkL, slTrees, AV.asOwn, rowPart, stoOf, AV.isNil, shA, rowsT, cellsT, cellT]
  | cons x l =>
   have hrt : ∀ y ∈ (x :: l).map (mesM call), Rt y.2 := fun y hy => by
    obtain ⟨z, hz, rfl⟩ := List.mem_map.1 hy
    exact reck_rt (hv z hz).2
   have h := (f_SortStable_choose_measured n_choose_sorted_1 (l.length + 1) true down (ordP down) (fun y => Rt y.2) (fun x y hx hy => f_choose_sorted_1 x y down hx hy) (by rw [ord_lt]; exact ord_below down) (by simp at hl; omega) ((x :: l).map (mesM call)) (by simp) hrt).ren (fun i => if i = 0 then 999 else 100) (by simp [keysOf])
   simp only [renL, renA, renS, renO, ↓reduceIte] at h
   rw [ord_lt] at h
   have hll := isrt_len (ordLt down) ((x :: l).map (mesM call))
   rw [List.length_map] at hll
   generalize isrt (ordLt down) ((x :: l).map (mesM call)) = R at *
   have d1 : decide (l.length + 1 < l.length + 1) = false := decide_eq_false (by omega)
   simp only [List.map_cons] at h
   simp only [go_sem, d1]
   refine oB (h) ?_
   have hb1 : ((l.length + 1 : Nat) : Int) < 2 ^ 47 := by simp at hl; omega
   have hb2 : ((56 : Nat) : Int) * ((l.length + 1 : Nat) : Int) ≤ 2 ^ 48 := by simp at hl; omega
   simp only [go_sem, hb1, hb2]
   have hRl : R.length = l.length + 1 := by rw [hll]; rfl
   refine W_loop (fun j : Nat => R.length - j) (fun j => j ≤ R.length)
    (fun j => [(10, .own 127 4 0 (l.length + 1) true), (34, .own 999 6 0 (l.length + 1) true), (35, I (l.length + 1 : Nat)), (36, I j)])
    (fun j => [(127, .row 4 true (((R.take j).map (·.1)).map seT ++ List.replicate (R.length - j) zeroSer)), (999, .row 6 true (R.map row_choose_measured))]) 0 (Nat.zero_le _) ?_ ?_
   ·simp only [List.take_zero, List.map_nil, List.nil_append, Nat.sub_zero, hRl, zeroSer]
    exact (sR [] [])
   intro j hj
   by_cases hjl : j < R.length
   ·have d2 : decide (j < l.length + 1) = true := decide_eq_true (by omega)
    obtain ⟨y, hy⟩ := get_of_lt hjl
    have hgy : (R.map row_choose_measured)[j]? = some [.v (.string (toB y.1.1)), .v (.int .i64 y.1.2.1), .v (.int .i64 y.1.2.2.1), .sl 2 (y.1.2.2.2.map numT), .v (.bool y.2.isNone), .v (.int .i64 (y.2.getD 0))] := by rw [List.getElem?_map, hy]; rfl
    have ej : IntKind.i64.wrap ((j : Int) + 1) = ((j + 1 : Nat) : Int) := by rw [wrap_i64_of (by omega) (by simp at hl; omega)]; omega
    have ib : (j : Int) < ((l.length + 1 : Nat) : Int) := by omega
    have tk : R.take (j + 1) = R.take j ++ [y] := by rw [List.take_add_one, hy]; rfl
    have er : R.length - j = (R.length - (j + 1)) + 1 := by omega
    have tl : (((R.take j).map (·.1)).map seT).length = j := by rw [List.length_map, List.length_map, List.length_take]; omega
    have hq : (((R.take j).map (·.1)).map seT ++ List.replicate (R.length - j) zeroSer)[j]? = some zeroSer := by
     rw [er, List.replicate_succ, List.getElem?_append_right (by omega), tl, Nat.sub_self]; rfl
    have hset : (((R.take j).map (·.1)).map seT ++ List.replicate (R.length - j) zeroSer).set j [.v (.string (toB y.1.1)), .v (.int .i64 y.1.2.1), .v (.int .i64 y.1.2.2.1), .sl 2 (y.1.2.2.2.map numT)] = ((R.take (j + 1)).map (·.1)).map seT ++ List.replicate (R.length - (j + 1)) zeroSer := by
     rw [er, List.replicate_succ, List.set_append_right _ _ (by omega), tl, Nat.sub_self, List.set_cons_zero, tk]
     simp [seT]
    generalize hA : ((R.take j).map (·.1)).map seT ++ List.replicate (R.length - j) zeroSer = A at *
    unfold zeroSer at hq
    simp only [go_sem, d2, hgy, ib, hq, hset, ej]
    exact rd_of (j + 1) (by first | omega | (simp only; omega)) hjl (sR [] [])
   ·obtain rfl : j = R.length := by omega
    have d2 : decide (R.length < l.length + 1) = false := decide_eq_false (by omega)
    rw [Nat.sub_self, List.take_length, List.replicate_zero, List.append_nil]
    simp only [go_sem, d2]
    refine wS [127] ?_
    simp only [go_sem, r_choose_sorted, exists_eq_left', Option.some.injEq]
    simp [wkV, wkL, slTrees, AV.asOwn, rowPart, stoOf, AV.isNil, shA, rowsT, cellsT, cellT, hRl, List.take_of_length_le]

end Go.Proofs.YtgmpceijcdimkaaGreatDoor
namespace Go.Proofs.YtgmpceijcdimkaaGreatDoor
open Go Go.Sx

theorem isrt_map {α β : Type} (f : α → β) (lt : β → β → Bool) : ∀ l : List α, isrt lt (l.map f) = (isrt (fun x y => lt (f x) (f y)) l).map f := by
 have hi : ∀ (x : α) (r : List α), insRev lt (f x) (r.map f) = (insRev (fun x y => lt (f x) (f y)) x r).map f := by
  intro x r
  induction r with
  | nil => rfl
  | cons y r ih =>
   simp only [List.map_cons, insRev]
   split
   ·rw [List.map_cons, ih]
   ·rfl
 intro l
 induction l using snoc_ind with
 | h0 => rfl
 | h1 l x ih =>
  rw [List.map_append, List.map_cons, List.map_nil, isrt_snoc, isrt_snoc, ih]
  unfold insR
  rw [← List.map_reverse, hi, List.map_reverse]

theorem sorted_isrt (call : List UInt8) (l : List Ser) (down : Bool) : sortedM call l down = isrt (fun x y => ordLt down (mesM call x) (mesM call y)) l := by
 unfold sortedM
 rw [isrt_map, List.map_map]
 have : ((fun x : Ser × Option Int => x.1) ∘ mesM call) = id := rfl
 rw [this, List.map_id]

end Go.Proofs.YtgmpceijcdimkaaGreatDoor
namespace Go.Proofs.YtgmpceijcdimkaaGreatDoor
open Go Go.Sx

def wholeN (n : Num) : Bool := decide (0 ≤ n.2) && (decide (n.2 % 1000000 = 0) && decide (n.2 / 1000000 ≤ 1099511627776))
def cellW (n : Num) : List T := [.v (.int .i64 (n.2 / 1000000))]
def wholesV (l : List Num) : AV := .tp [.t (.sl 1 (if l.all wholeN = true then l.map cellW else [])), Bo (l.all wholeN)]

theorem all_take {α : Type} {p : α → Bool} {l : List α} {i : Nat} {x : α} (hx : l[i]? = some x) (h : (l.take i).all p = true) (hp : p x = true) : (l.take (i + 1)).all p = true := by
 rw [List.take_add_one, hx, List.all_append, h]
 simp [hp]

theorem all_no {α : Type} {p : α → Bool} {l : List α} {i : Nat} {x : α} (hx : l[i]? = some x) (hp : p x = false) : l.all p = false := by
 rw [Bool.eq_false_iff]
 intro h
 rw [List.all_eq_true.1 h x (List.mem_of_getElem? hx)] at hp
 cases hp

theorem f_choose_wholes (l : List Num) (hl : l.length ≤ 1000000) (h : ∀ n ∈ l, inN n) : Meets Tryz.prog E0 n_choose_wholes [numL l] [] (wholesV l) [] := by
 refine st0 m_choose_wholes ?_
 have hz : (l.map numT).length = l.length := by simp
 simp only [go_sem, s_choose_wholes, hz]
 refine W_loop (fun i : Nat => l.length - i) (fun i => i ≤ l.length ∧ (l.take i).all wholeN = true)
  (fun i => [(0, numL l), (4, .own 999 1 0 i (decide (0 < i))), (7, numL l), (8, I l.length), (9, I i)])
  (fun i => [(999, .row 1 (decide (0 < i)) ((l.take i).map cellW))]) 0 ⟨Nat.zero_le _, rfl⟩ ?_ ?_
 ·simp only [List.take_zero, List.map_nil, Nat.lt_irrefl, decide_false]
  exact (sR [(999, 888)] [])
 rintro i ⟨hi, hall⟩
 have htl : ((l.take i).map cellW).length = i := by rw [List.length_map, List.length_take]; omega
 have ht2 : (l.take i).length = i := by rw [List.length_take]; omega
 have ht3 : (i = (l.take i).length) = True := eq_true ht2.symm
 by_cases hil : i < l.length
 ·have d0 : decide (i < l.length) = true := decide_eq_true hil
  obtain ⟨n, hn⟩ := get_of_lt hil
  have hv := h n (List.mem_of_getElem? hn)
  obtain ⟨hv1, hv2⟩ := hv
  have hg : (l.map numT)[i]? = some [.v (.bool n.1), .v (.int .i64 n.2)] := by rw [List.getElem?_map, hn]; rfl
  have ei : IntKind.i64.wrap ((i : Int) + 1) = ((i + 1 : Nat) : Int) := by rw [wrap_i64_of (by omega) (by omega)]; omega
  have a0 : ¬ (1000000 : Int) = 0 := by decide
  cases k1 : decide (n.2 < 0)
  ·have k1' := of_decide_eq_false k1
   have q1 : n.2.tmod 1000000 = n.2 % 1000000 := smod (by omega)
   have q2 : n.2.tdiv 1000000 = n.2 / 1000000 := sdiv (by omega)
   have q5 : IntKind.i64.wrap (n.2 / 1000000) = n.2 / 1000000 := wrap_i64_of (by omega) (by omega)
   have b1 : (i + 1) * 8 ≤ 2 ^ 47 := by omega
   have b2 : i + 1 < 2 ^ 47 := by omega
   cases k2 : decide (n.2 % 1000000 = 0)
   ·simp only [go_sem, hz, d0, hg, k1, i64_rem a0, q1, k2]
    have hp : wholeN n = false := by unfold wholeN; rw [k2]; simp
    unfold wholesV
    refine wS [] ?_
    simp only [go_sem, r_choose_wholes, exists_eq_left', Option.some.injEq]
    simp [wkV, wkL, slTrees, AV.asOwn, rowPart, stoOf, AV.isNil, shA, rowsT, cellsT, cellT, all_no hn hp]
   ·cases k3 : decide (1099511627776 < n.2 / 1000000)
    ·simp only [go_sem, hz, d0, hg, k1, i64_rem a0, q1, k2, q2, q5, k3]
     ((try (with_reducible refine rF ?_)); (try simp only [go_sem, hz, d0, hg, b1, b2, ei, htl, ht2, ht3]))
     have hp : wholeN n = true := by unfold wholeN; rw [decide_eq_true (show 0 ≤ n.2 by omega), k2, decide_eq_true (show n.2 / 1000000 ≤ 1099511627776 by have := of_decide_eq_false k3; omega)]; rfl
     have di1 : decide (0 < i + 1) = true := decide_eq_true (by omega)
     have tf : (l.take (i + 1)).map cellW = (l.take i).map cellW ++ [[.v (.int .i64 (n.2 / 1000000))]] := by rw [List.take_add_one, hn, List.map_append]; rfl
     clear b1 b2
     refine rd_of (i + 1) (by first | omega | (simp only; omega)) ⟨by omega, all_take hn hall hp⟩ ?_
     rw [di1, tf]
     exact (sR [(999, 133)] [])
    ·simp only [go_sem, hz, d0, hg, k1, i64_rem a0, q1, k2, q2, q5, k3]
     have hp : wholeN n = false := by unfold wholeN; rw [decide_eq_false (show ¬ n.2 / 1000000 ≤ 1099511627776 by have := of_decide_eq_true k3; omega)]; simp
     unfold wholesV
     refine wS [] ?_
     simp only [go_sem, r_choose_wholes, exists_eq_left', Option.some.injEq]
     simp [wkV, wkL, slTrees, AV.asOwn, rowPart, stoOf, AV.isNil, shA, rowsT, cellsT, cellT, all_no hn hp]
  ·simp only [go_sem, hz, d0, hg, k1]
   have hp : wholeN n = false := by unfold wholeN; rw [decide_eq_false (show ¬ 0 ≤ n.2 by have := of_decide_eq_true k1; omega)]; simp
   unfold wholesV
   refine wS [] ?_
   simp only [go_sem, r_choose_wholes, exists_eq_left', Option.some.injEq]
   simp [wkV, wkL, slTrees, AV.asOwn, rowPart, stoOf, AV.isNil, shA, rowsT, cellsT, cellT, all_no hn hp]
 ·obtain rfl : i = l.length := by omega
  have d0 : decide (l.length < l.length) = false := decide_eq_false (by omega)
  rw [List.take_length] at hall htl ⊢
  simp only [go_sem, hz, d0]
  unfold wholesV
  rw [if_pos hall, hall]
  by_cases h0 : l = []
  ·subst h0
   refine wS [] ?_
   simp only [go_sem, r_choose_wholes, exists_eq_left', Option.some.injEq]
   simp [wkV, wkL, slTrees, AV.asOwn, rowPart, stoOf, AV.isNil, shA, rowsT, cellsT, cellT]
  ·have hp : decide (0 < l.length) = true := decide_eq_true (List.length_pos_iff.2 h0)
   rw [hp]
   refine wS [999] ?_
   simp only [go_sem, r_choose_wholes, exists_eq_left', Option.some.injEq]
   simp [wkV, wkL, slTrees, AV.asOwn, rowPart, stoOf, AV.isNil, shA, rowsT, cellsT, cellT, hz, List.take_of_length_le]

end Go.Proofs.YtgmpceijcdimkaaGreatDoor
namespace Go.Proofs.YtgmpceijcdimkaaGreatDoor
open Go Go.Sx

/-- Of a list, so many. -/
def firstM {α : Type} (l : List α) : List Num → List α
 | [] => l
 | n :: _ => l.take (n.2 / 1000000).toNat

theorem f_choose_first (l : List Ser) (a : List Num) (hl : l.length ≤ 1000000) (ha : a.length ≤ 1000000) (h : a.all wholeN = true) : Meets Tryz.prog E0 n_choose_first [serL l, .t (.sl 1 (a.map cellW))] [] (serL (firstM l a)) [] := by
 refine st0 m_choose_first ?_
 have hz : (l.map seT).length = l.length := by simp
 cases a with
 | nil =>
  simp only [firstM]
  have d0 : decide (((0 : Nat) : Int) = 0) = true := rfl
  simp only [go_sem, s_choose_first, d0]
  refine wS [] ?_
  simp only [go_sem, r_choose_first, exists_eq_left', Option.some.injEq]
  simp [wkV, wkL, slTrees, AV.asOwn, rowPart, stoOf, AV.isNil, shA, rowsT, cellsT, cellT]
 | cons n a =>
  have hn := List.all_eq_true.1 h n (by simp)
  unfold wholeN at hn
  have h0 : 0 ≤ n.2 := by simp at hn; exact hn.1
  have d0 : decide (((a.length + 1 : Nat) : Int) = 0) = false := decide_eq_false (by omega)
  have hg : cellW n = [.v (.int .i64 (n.2 / 1000000))] := rfl
  have hd : 0 ≤ n.2 / 1000000 := Int.ediv_nonneg h0 (by omega)
  have e1 : min (n.2 / 1000000) (l.length : Int) = ((min (n.2 / 1000000).toNat l.length : Nat) : Int) := by omega
  have c1 : min (n.2 / 1000000).toNat l.length ≤ l.length := Nat.min_le_right _ _
  have c2 : (((min (n.2 / 1000000).toNat l.length : Nat) : Int) ≤ (l.length : Int)) = True := eq_true (by omega)
  have e2 : l.take (n.2 / 1000000).toNat = l.take (min (n.2 / 1000000).toNat l.length) := by
   rcases Nat.le_total (n.2 / 1000000).toNat l.length with q | q
   ·rw [Nat.min_eq_left q]
   ·rw [Nat.min_eq_right q, List.take_of_length_le q, List.take_length]
  simp only [firstM, e2]
  simp only [go_sem, s_choose_first, d0, hg, hz]
  simp only [go_sem, e1, c1, c2, hz]
  refine wS [] ?_
  simp only [go_sem, r_choose_first, exists_eq_left', Option.some.injEq]
  simp [wkV, wkL, slTrees, AV.asOwn, rowPart, stoOf, AV.isNil, shA, rowsT, cellsT, cellT]

end Go.Proofs.YtgmpceijcdimkaaGreatDoor
namespace Go.Proofs.YtgmpceijcdimkaaGreatDoor
open Go Go.Sx

theorem f_IdxT_S (g : Nat) (p : Ser → Bool) (l : List Ser) (hn : l.length ≤ 1000000000000) (hg : ∀ s ∈ l, Meets Tryz.prog E0 g [(.ag [Str (toB (s).1), I (s).2.1, I (s).2.2.1, numL (s).2.2.2])] [] (Bo (p s)) []) :
  Meets Tryz.prog E0 n_slices_IndexFunc_Sapi_Series_api_Series [.t (.sl 4 (l.map seT)), .fn g [] []] [] (I (idxG p l 0)) [] := by
 generalize hout : idxG p l 0 = out
 refine st0 m_slices_IndexFunc_Sapi_Series_api_Series ?_
 have hlen : (l.map seT).length = l.length := by simp
 simp only [go_sem, s_slices_IndexFunc_Sapi_Series_api_Series, hlen]
 refine W_loop (fun i : Nat => l.length - i) (fun i => i ≤ l.length ∧ idxG p (l.drop i) i = out)
  (fun i => [(0, .t (.sl 4 (l.map seT))), (1, .fn g [] []), (7, I l.length), (8, I i)])
  (fun i => []) 0 ⟨Nat.zero_le _, by simpa using hout⟩ (sR [] []) ?_
 rintro i ⟨hi, hr⟩
 by_cases hil : i < l.length
 ·have d0 : decide (i < l.length) = true := decide_eq_true hil
  obtain ⟨s, hs⟩ := get_of_lt hil
  have ei : IntKind.i64.wrap ((i : Int) + 1) = ((i + 1 : Nat) : Int) := by rw [wrap_i64_of (by omega) (by omega)]; omega
  have hgr : (l.map seT)[i]? = some [.v (.string (toB (s).1)), .v (.int .i64 (s).2.1), .v (.int .i64 (s).2.2.1), .sl 2 ((s).2.2.2.map numT)] := by rw [List.getElem?_map, hs]; rfl
  have hc := hg s (List.mem_of_getElem? hs)
  rw [drop_get hs] at hr
  simp only [idxG] at hr
  simp only [go_sem, d0, hgr]
  refine Cl_plain hc ?_
  by_cases hp : p s = true
  ·rw [if_pos hp] at hr
   rw [hp, ← hr]
   simp only [go_sem]
   refine wE ?_
   simp only [go_sem, r_slices_IndexFunc_Sapi_Series_api_Series]
  ·rw [if_neg hp] at hr
   rw [show p s = false from by simpa using hp]
   simp only [go_sem, ei]
   exact rd_of (i + 1) (by first | omega | (simp only; omega)) ⟨by first | omega | (simp only; omega), hr⟩ (sR [] [])
 ·obtain rfl : i = l.length := by omega
  have d0 : decide (l.length < l.length) = false := decide_eq_false (by omega)
  rw [List.drop_length] at hr
  simp only [idxG] at hr
  rw [← hr]
  simp only [go_sem, d0]
  refine wE ?_
  simp only [go_sem, r_slices_IndexFunc_Sapi_Series_api_Series]

theorem f_ConT_S (g : Nat) (p : Ser → Bool) (l : List Ser) (hn : l.length ≤ 1000000000000) (hg : ∀ s ∈ l, Meets Tryz.prog E0 g [(.ag [Str (toB (s).1), I (s).2.1, I (s).2.2.1, numL (s).2.2.2])] [] (Bo (p s)) []) :
  Meets Tryz.prog E0 n_slices_ContainsFunc_Sapi_Series_api_Series [.t (.sl 4 (l.map seT)), .fn g [] []] [] (Bo (l.any p)) [] := by
 refine st0 m_slices_ContainsFunc_Sapi_Series_api_Series ?_
 have e := idxG_any p l
 simp only [go_sem, s_slices_ContainsFunc_Sapi_Series_api_Series]
 refine Cl_plain (f_IdxT_S g p l hn hg) ?_
 simp only [go_sem, e]
 refine wE ?_
 simp only [go_sem, r_slices_ContainsFunc_Sapi_Series_api_Series]

end Go.Proofs.YtgmpceijcdimkaaGreatDoor
namespace Go.Proofs.YtgmpceijcdimkaaGreatDoor
open Go Go.Sx

def rightS (s : Ser) : Bool := decide (s.1.length ≤ 400) && (decide (s.2.2.2.length ≤ 2000) && (decide (1 ≤ s.2.2.1) && (decide (s.2.2.1 ≤ 86400) && (decide (0 ≤ s.2.1) && (decide (s.2.1 ≤ 1099511627776) && s.2.2.2.all numB)))))
abbrev serA (s : Ser) : AV := .ag [Str (toB s.1), I s.2.1, I s.2.2.1, numL s.2.2.2]

theorem f_series_Right_1 (n : Num) (h : -9223372036854775808 ≤ n.2) : Meets Tryz.prog E0 n_series_Right_1 [.ag [Bo n.1, I n.2]] [] (Bo (!numB n)) [] := by
 refine st0 m_series_Right_1 ?_
 have hR := f_fixed_Right n.1 n.2 h
 unfold numB
 simp only [go_sem, s_series_Right_1]
 refine Cl_plain hR ?_
 simp only [go_sem]
 refine wE ?_
 simp only [go_sem, r_series_Right_1]

theorem any_notG {α : Type} (p : α → Bool) (l : List α) : l.any (fun x => !p x) = !l.all p := by
 induction l with
 | nil => rfl
 | cons x l ih => simp only [List.any_cons, List.all_cons, ih, Bool.not_and]

theorem le_not (a b : Int) : decide (a ≤ b) = !decide (b < a) := by by_cases q : b < a <;> simp [q] <;> omega
theorem leN_not (a b : Nat) : decide (a ≤ b) = !decide ((b : Int) < (a : Int)) := by by_cases q : b < a <;> simp [q] <;> omega

theorem f_series_Right (s : Ser) (hl : s.2.2.2.length ≤ 1000000000000) (h : inS s) : Meets Tryz.prog E0 n_series_Right [serA s] [] (Bo (rightS s)) [] := by
 refine st0 m_series_Right ?_
 obtain ⟨nm, st, sp, vs⟩ := s
 simp only at hl
 have hC := f_ConT_N n_series_Right_1 (fun n => !numB n) vs hl (fun n hn => f_series_Right_1 n (h n hn).1)
 rw [any_notG] at hC
 unfold rightS
 simp only
 have hz : (vs.map numT).length = vs.length := by simp
 rw [leN_not nm.length, leN_not vs.length, le_not 1 sp, le_not sp 86400, le_not 0 st, le_not st]
 cases h1 : decide ((400 : Int) < (nm.length : Int))
 case true =>
  have h1' : decide (((400 : Nat) : Int) < (nm.length : Int)) = true := h1
  simp only [go_sem, s_series_Right, toB_size, h1]
  refine wE ?_
  simp only [go_sem, r_series_Right, h1']
 case false =>
  have h1' : decide (((400 : Nat) : Int) < (nm.length : Int)) = false := h1
  cases h2 : decide ((2000 : Int) < (vs.length : Int))
  case true =>
   have h2' : decide (((2000 : Nat) : Int) < (vs.length : Int)) = true := h2
   simp only [go_sem, s_series_Right, toB_size, h1, hz, h2]
   refine wE ?_
   simp only [go_sem, r_series_Right, h1', h2']
  case false =>
   have h2' : decide (((2000 : Nat) : Int) < (vs.length : Int)) = false := h2
   cases h3 : decide (sp < 1)
   case true =>
    simp only [go_sem, s_series_Right, toB_size, h1, hz, h2, h3]
    refine wE ?_
    simp only [go_sem, r_series_Right, h1', h2']
   case false =>
    cases h4 : decide (86400 < sp)
    case true =>
     simp only [go_sem, s_series_Right, toB_size, h1, hz, h2, h3, h4]
     refine wE ?_
     simp only [go_sem, r_series_Right, h1', h2']
    case false =>
     cases h5 : decide (st < 0)
     case true =>
      simp only [go_sem, s_series_Right, toB_size, h1, hz, h2, h3, h4, h5]
      refine wE ?_
      simp only [go_sem, r_series_Right, h1', h2']
     case false =>
      cases h6 : decide (1099511627776 < st)
      case true =>
       simp only [go_sem, s_series_Right, toB_size, h1, hz, h2, h3, h4, h5, h6]
       refine wE ?_
       simp only [go_sem, r_series_Right, h1', h2']
      case false =>
       simp only [go_sem, s_series_Right, toB_size, h1, hz, h2, h3, h4, h5, h6]
       refine Cl_plain hC ?_
       simp only [go_sem, Bool.not_not]
       refine wE ?_
       simp only [go_sem, r_series_Right, h1', h2']

end Go.Proofs.YtgmpceijcdimkaaGreatDoor
namespace Go.Proofs.YtgmpceijcdimkaaGreatDoor
open Go Go.Sx

theorem f_same14 (a b : Ser) (hl : a.2.2.2.length ≤ maxLen) : Meets Tryz.prog E0 n_ref14_SameSeries [serA a, serA b] [] (Bo (decide (a = b))) [] := by
 refine st0 m_ref14_SameSeries ?_
 obtain ⟨an, at_, ap, av⟩ := a
 obtain ⟨bn, bt, bp, bv⟩ := b
 have hS := f_ref02_Same av bv hl
 have q := eqT an bn
 cases h1 : (an == bn)
 ·have e : decide ((an, at_, ap, av) = (bn, bt, bp, bv)) = false := decide_eq_false (fun e => by injection e with e1; subst e1; simp at h1)
  rw [h1] at q
  rw [e]
  simp only [go_sem, s_ref14_SameSeries, q]
  refine wE ?_
  simp only [go_sem, r_ref14_SameSeries]
 ·have h1' : an = bn := by simpa using h1
  subst h1'
  rw [h1] at q
  cases h2 : decide (at_ = bt)
  ·have h2' := of_decide_eq_false h2
   have e : decide ((an, at_, ap, av) = (an, bt, bp, bv)) = false := decide_eq_false (fun e => by injection e with _ e; injection e with e; exact h2' e)
   rw [e]
   simp only [go_sem, s_ref14_SameSeries, q, h2]
   refine wE ?_
   simp only [go_sem, r_ref14_SameSeries]
  ·obtain rfl := of_decide_eq_true h2
   cases h3 : decide (ap = bp)
   ·have h3' := of_decide_eq_false h3
    have e : decide ((an, at_, ap, av) = (an, at_, bp, bv)) = false := decide_eq_false (fun e => by injection e with _ e; injection e with _ e; injection e with e; exact h3' e)
    rw [e]
    simp only [go_sem, s_ref14_SameSeries, q, h2, h3]
    refine wE ?_
    simp only [go_sem, r_ref14_SameSeries]
   ·obtain rfl := of_decide_eq_true h3
    have e : decide ((an, at_, ap, av) = (an, at_, ap, bv)) = decide (av = bv) := by simp
    rw [e]
    simp only [go_sem, s_ref14_SameSeries, q, h2, h3]
    refine Cl_plain hS ?_
    simp only [go_sem]
    refine wE ?_
    simp only [go_sem, r_ref14_SameSeries]

theorem take_snoc_eq {α : Type} {a b : List α} {i : Nat} {x y : α} (hx : a[i]? = some x) (hy : b[i]? = some y) (h : a.take i = b.take i) (e : x = y) : a.take (i + 1) = b.take (i + 1) := by
 rw [List.take_add_one, List.take_add_one, hx, hy, h, e]

theorem f_ref24_SameList (a b : List Ser) (hl : a.length ≤ 1000000) (hl2 : b.length ≤ 1000000) (hv : ∀ s ∈ a, s.2.2.2.length ≤ maxLen) : Meets Tryz.prog E0 n_ref24_SameList [serL a, serL b] [] (Bo (decide (a = b))) [] := by
 refine st0 m_ref24_SameList ?_
 have hz : (a.map seT).length = a.length := by simp
 have hz2 : (b.map seT).length = b.length := by simp
 cases h0 : decide (a.length = b.length)
 ·have h0' := of_decide_eq_false h0
  have e : decide (a = b) = false := decide_eq_false (fun e => h0' (by rw [e]))
  rw [e]
  simp only [go_sem, s_ref24_SameList, hz, hz2, h0]
  refine wE ?_
  simp only [go_sem, r_ref24_SameList]
 ·have h0' := of_decide_eq_true h0
  simp only [go_sem, s_ref24_SameList, hz, hz2, h0]
  refine W_loop (fun i : Nat => a.length - i) (fun i => i ≤ a.length ∧ a.take i = b.take i)
   (fun i => [(0, serL a), (1, serL b), (5, I i)]) (fun _ => []) 0 ⟨Nat.zero_le _, rfl⟩ (sR [] []) ?_
  rintro i ⟨hi, hall⟩
  by_cases hil : i < a.length
  ·have d0 : decide (i < a.length) = true := decide_eq_true hil
   obtain ⟨x, hx⟩ := get_of_lt hil
   obtain ⟨y, hy⟩ := get_of_lt (show i < b.length by omega)
   have hgx : (a.map seT)[i]? = some [.v (.string (toB x.1)), .v (.int .i64 x.2.1), .v (.int .i64 x.2.2.1), .sl 2 (x.2.2.2.map numT)] := by rw [List.getElem?_map, hx]; rfl
   have hgy : (b.map seT)[i]? = some [.v (.string (toB y.1)), .v (.int .i64 y.2.1), .v (.int .i64 y.2.2.1), .sl 2 (y.2.2.2.map numT)] := by rw [List.getElem?_map, hy]; rfl
   have ei : IntKind.i64.wrap ((i : Int) + 1) = ((i + 1 : Nat) : Int) := by rw [wrap_i64_of (by omega) (by omega)]; omega
   have hS := f_same14 x y (hv x (List.mem_of_getElem? hx))
   simp only [go_sem, hz, hz2, d0, hgx, hgy]
   refine Cl_plain hS ?_
   cases h1 : decide (x = y)
   ·have h1' := of_decide_eq_false h1
    have e : decide (a = b) = false := decide_eq_false (fun e => h1' (by subst e; rw [hx] at hy; injection hy))
    rw [e]
    simp only [go_sem]
    ((try (with_reducible refine rF ?_)); (try simp only [go_sem]))
    refine wE ?_
    simp only [go_sem, r_ref24_SameList]
   ·simp only [go_sem, ei]
    ((try (with_reducible refine rF ?_)); (try simp only [go_sem, ei]))
    exact rd_of (i + 1) (by first | omega | (simp only; omega)) ⟨by omega, take_snoc_eq hx hy hall (of_decide_eq_true h1)⟩ (sR [] [])
  ·obtain rfl : i = a.length := by omega
   have d0 : decide (a.length < a.length) = false := decide_eq_false (by omega)
   have e : decide (a = b) = true := by
    refine decide_eq_true ?_
    rw [List.take_length, List.take_of_length_le (by omega)] at hall
    exact hall
   rw [e]
   simp only [go_sem, hz, d0]
   refine wE ?_
   simp only [go_sem, r_ref24_SameList]

end Go.Proofs.YtgmpceijcdimkaaGreatDoor
namespace Go.Proofs.YtgmpceijcdimkaaGreatDoor
open Go Go.Sx

theorem f_IdxO_S (g : Nat) (w : Nat) (c0 c1 : List T) (p : Ser → Bool) (l : List Ser) (hn : l.length ≤ 1000000) (hg : ∀ s ∈ l, Meets Tryz.prog E0 g ([(.ag [Str (toB (s).1), I (s).2.1, I (s).2.2.1, numL (s).2.2.2])] ++ [.ptr 1 0]) [(1, .box [.fn w [] [.ptr 2 0, .ptr 3 0]]), (2, .box (c0.map .t)), (3, .box (c1.map .t))] (Bo (p s)) [(1, .box [.fn w [] [.ptr 2 0, .ptr 3 0]]), (2, .box (c0.map .t)), (3, .box (c1.map .t))]) :
  Meets Tryz.prog E0 n_slices_IndexFunc_Sapi_Series_api_Series [.own 0 4 0 l.length true, .fn g [] [.ptr 1 0]] [(0, .row 4 true (l.map seT)), (1, .box [.fn w [] [.ptr 2 0, .ptr 3 0]]), (2, .box (c0.map .t)), (3, .box (c1.map .t))] (I (idxG p l 0)) [(0, .row 4 true (l.map seT)), (1, .box [.fn w [] [.ptr 2 0, .ptr 3 0]]), (2, .box (c0.map .t)), (3, .box (c1.map .t))] := by
 generalize hout : idxG p l 0 = out
 refine m_slices_IndexFunc_Sapi_Series_api_Series (by simp) (shut_of (by simp [idsL, AV.ids, keysOf]) (by simp [Ob.live, Ob.ids, keysOf, idsL, AV.ids])) (shut_of (by simp [idsL, AV.ids, keysOf]) (by simp [Ob.live, Ob.ids, keysOf, idsL, AV.ids])) (by simp [keysOf]) (by simp [keysOf]) ?_
 simp only [go_sem, s_slices_IndexFunc_Sapi_Series_api_Series]
 refine W_loop (fun i : Nat => l.length - i) (fun i => i ≤ l.length ∧ idxG p (l.drop i) i = out)
  (fun i => [(0, .own 0 4 0 l.length true), (1, .fn g [] [.ptr 1 0]), (7, I l.length), (8, I i)])
  (fun i => [(0, .row 4 true (l.map seT)), (1, .box [.fn w [] [.ptr 2 0, .ptr 3 0]]), (2, .box (c0.map .t)), (3, .box (c1.map .t))]) 0 ⟨Nat.zero_le _, by simpa using hout⟩ (sR [] []) ?_
 rintro i ⟨hi, hr⟩
 by_cases hil : i < l.length
 ·have d0 : decide (i < l.length) = true := decide_eq_true hil
  obtain ⟨s, hs⟩ := get_of_lt hil
  have ei : IntKind.i64.wrap ((i : Int) + 1) = ((i + 1 : Nat) : Int) := by rw [wrap_i64_of (by omega) (by omega)]; omega
  have ib : (i : Int) < (l.length : Int) := by omega
  have hgr : (l.map seT)[i]? = some [.v (.string (toB (s).1)), .v (.int .i64 (s).2.1), .v (.int .i64 (s).2.2.1), .sl 2 ((s).2.2.2.map numT)] := by rw [List.getElem?_map, hs]; rfl
  have hc := hg s (List.mem_of_getElem? hs)
  rw [drop_get hs] at hr
  simp only [idxG] at hr
  simp only [go_sem, d0, hgr, ib]
  refine Cl_cap (hc) (by simp [keysOf, stoOf]) (by simp [keysOf]) (by simp [keysOf]) ?_
  by_cases hp : p s = true
  ·rw [if_pos hp] at hr
   rw [hp]
   simp only [go_sem]
   refine wO [] [] ?_
   simp only [go_sem, r_slices_IndexFunc_Sapi_Series_api_Series, exists_eq_left', Option.some.injEq]
   simp [wkV, wkL, slTrees, AV.asOwn, rowPart, stoOf, AV.isNil, shA, rowsT, cellsT, cellT, hr]
  ·rw [if_neg hp] at hr
   rw [show p s = false from by simpa using hp]
   simp only [go_sem, ei]
   exact rd_of (i + 1) (by first | omega | (simp only; omega)) ⟨by first | omega | (simp only; omega), hr⟩ (sR [] [])
 ·obtain rfl : i = l.length := by omega
  have d0 : decide (l.length < l.length) = false := decide_eq_false (by omega)
  rw [List.drop_length] at hr
  simp only [idxG] at hr
  simp only [go_sem, d0]
  refine wO [] [] ?_
  simp only [go_sem, r_slices_IndexFunc_Sapi_Series_api_Series, exists_eq_left', Option.some.injEq]
  simp [wkV, wkL, slTrees, AV.asOwn, rowPart, stoOf, AV.isNil, shA, rowsT, cellsT, cellT, hr]

theorem f_DelO_S (g : Nat) (w : Nat) (c0 c1 : List T) (p : Ser → Bool) (l : List Ser) (hn : l.length ≤ 100000) (hg : ∀ s ∈ l, Meets Tryz.prog E0 g ([(.ag [Str (toB (s).1), I (s).2.1, I (s).2.2.1, numL (s).2.2.2])] ++ [.ptr 1 0]) [(1, .box [.fn w [] [.ptr 2 0, .ptr 3 0]]), (2, .box (c0.map .t)), (3, .box (c1.map .t))] (Bo (p s)) [(1, .box [.fn w [] [.ptr 2 0, .ptr 3 0]]), (2, .box (c0.map .t)), (3, .box (c1.map .t))]) :
  Meets Tryz.prog E0 n_slices_DeleteFunc_Sapi_Series_api_Series [.own 0 4 0 l.length true, .fn g [] [.ptr 1 0]] [(0, .row 4 true (l.map seT)), (1, .box [.fn w [] [.ptr 2 0, .ptr 3 0]]), (2, .box (c0.map .t)), (3, .box (c1.map .t))] (.own 0 4 0 (leftG p l).length true) [(0, .row 4 true ((leftG p l).map seT ++ List.replicate (l.length - (leftG p l).length) [T.v (.string (bs [])), T.v (.int .i64 0), T.v (.int .i64 0), T.v (.slice none 0 0)])), (1, .box [.fn w [] [.ptr 2 0, .ptr 3 0]]), (2, .box (c0.map .t)), (3, .box (c1.map .t))] := by
 have bI := f_IdxO_S g w c0 c1 p l (by omega) hg
 refine m_slices_DeleteFunc_Sapi_Series_api_Series (by simp) (shut_of (by simp [idsL, AV.ids, keysOf]) (by simp [Ob.live, Ob.ids, keysOf, idsL, AV.ids])) (shut_of (by simp [idsL, AV.ids, keysOf]) (by simp [Ob.live, Ob.ids, keysOf, idsL, AV.ids])) (by simp [keysOf]) (by simp [keysOf]) ?_
 rcases split_firstG p l with hno | ⟨pre, s0, post, hl, hpre, hs0⟩
 ·rw [idxG_none 0 hno] at bI
  have hle : leftG p l = l := List.filter_eq_self.2 (fun s hs => by simp [hno s hs])
  rw [hle, Nat.sub_self]
  simp only [go_sem, s_slices_DeleteFunc_Sapi_Series_api_Series]
  refine oB (bI) ?_
  have d1 : decide ((-1 : Int) = -1) = true := rfl
  simp only [go_sem, d1]
  refine wO [] [] ?_
  simp only [go_sem, r_slices_DeleteFunc_Sapi_Series_api_Series, exists_eq_left', Option.some.injEq]
  simp [wkV, wkL, slTrees, AV.asOwn, rowPart, stoOf, AV.isNil, shA, rowsT, cellsT, cellT, ren]
 ·have hidx : idxG p l 0 = (pre.length : Int) := by rw [hl, idxG_some hs0 0 hpre, Nat.zero_add]
  rw [hidx] at bI
  have hll : pre.length + (post.length + 1) = l.length := by rw [hl]; simp
  have d1 : decide ((pre.length : Int) = -1) = false := decide_eq_false (by omega)
  have e1 : IntKind.i64.wrap ((pre.length : Int) + 1) = ((pre.length + 1 : Nat) : Int) := by rw [wrap_i64_of (by omega) (by omega)]; omega
  have htk : l.take (pre.length + 1) = pre ++ [s0] := by
   rw [hl, List.take_append, List.take_of_length_le (by omega), show pre.length + 1 - pre.length = 1 by omega]; rfl
  have hlp : leftG p (l.take (pre.length + 1)) = pre := by
   rw [htk]; unfold leftG
   rw [List.filter_append, List.filter_eq_self.2 (fun s hs => by simp [hpre s hs])]
   simp [hs0]
  have hdr : l.drop (pre.length + 1) = post := by rw [hl]; simp
  simp only [go_sem, s_slices_DeleteFunc_Sapi_Series_api_Series]
  refine oB (bI) ?_
  simp only [go_sem, d1, e1]
  refine W_loop (fun x : Nat × List Ser => l.length - x.1) (fun x => x.1 ≤ l.length ∧ x.2 ≠ [] ∧ (leftG p (l.take x.1) ++ x.2).length = x.1)
   (fun x => [(0, .own 0 4 0 l.length true), (1, .fn g [] [.ptr 1 0]), (5, I (leftG p (l.take x.1)).length), (6, I x.1)])
   (fun x => [(0, .row 4 true (((leftG p (l.take x.1) ++ x.2) ++ l.drop x.1).map seT)), (1, .box [.fn w [] [.ptr 2 0, .ptr 3 0]]), (2, .box (c0.map .t)), (3, .box (c1.map .t))])
   (pre.length + 1, [s0]) ⟨by omega, by simp, by rw [hlp]; simp⟩ ?_ ?_
  ·simp only [hlp, hdr]
   rw [show (pre ++ [s0]) ++ post = l by rw [hl]; simp]
   exact (sR [] [])
  rintro ⟨j, st⟩ ⟨hj, hst, hjl⟩
  simp only at hj hst hjl
  by_cases hjlt : j < l.length
  ·have d2 : decide (j < l.length) = true := decide_eq_true hjlt
   obtain ⟨s, hs⟩ := get_of_lt hjlt
   have hc := hg s (List.mem_of_getElem? hs)
   have ei : IntKind.i64.wrap ((j : Int) + 1) = ((j + 1 : Nat) : Int) := by rw [wrap_i64_of (by omega) (by omega)]; omega
   have ib : (j : Int) < (l.length : Int) := by omega
   have hget := get_farG hs hjl
   have hsucc := leftG_succ (p := p) hs
   have hdj := drop_get hs
   generalize hK : leftG p (l.take j) = K at *
   have hgr : ((K ++ st ++ l.drop j).map seT)[j]? = some [.v (.string (toB (s).1)), .v (.int .i64 (s).2.1), .v (.int .i64 (s).2.2.1), .sl 2 ((s).2.2.2.map numT)] := by rw [List.getElem?_map, hget]; rfl
   simp only [go_sem, d2, hgr, ib]
   refine Cl_cap (hc) (by simp [keysOf, stoOf]) (by simp [keysOf]) (by simp [keysOf]) ?_
   by_cases hp : p s = true
   ·rw [if_pos hp, List.append_nil] at hsucc
    rw [hp]
    simp only [go_sem, ei]
    refine rd_of (j + 1, st ++ [s]) (by simp only; omega) ⟨by simp only; omega, by simp, by simp only [hsucc]; simp at hjl ⊢; omega⟩ ?_
    simp only [hsucc]
    rw [show (K ++ st) ++ l.drop j = (K ++ (st ++ [s])) ++ l.drop (j + 1) by rw [hdj]; simp]
    exact (sR [] [])
   ·rw [if_neg hp] at hsucc
    rw [show p s = false from by simpa using hp]
    obtain ⟨x, st', rfl⟩ : ∃ x st', st = x :: st' := by cases st with | nil => exact absurd rfl hst | cons x st' => exact ⟨x, st', rfl⟩
    have ib2 : (K.length : Int) < (l.length : Int) := by simp at hjl; omega
    have e2 : IntKind.i64.wrap ((K.length : Int) + 1) = ((K.length + 1 : Nat) : Int) := by rw [wrap_i64_of (by simp at hjl; omega) (by simp at hjl; omega)]; omega
    have hgx : ((K ++ x :: st' ++ l.drop j).map seT)[K.length]? = some [.v (.string (toB (x).1)), .v (.int .i64 (x).2.1), .v (.int .i64 (x).2.2.1), .sl 2 ((x).2.2.2.map numT)] := by
     rw [List.getElem?_map, List.append_assoc, List.getElem?_append_right (Nat.le_refl _), Nat.sub_self]; rfl
    have hset : ((K ++ x :: st' ++ l.drop j).map seT).set K.length [.v (.string (toB (s).1)), .v (.int .i64 (s).2.1), .v (.int .i64 (s).2.2.1), .sl 2 ((s).2.2.2.map numT)] = (((K ++ [s]) ++ (st' ++ [s])) ++ l.drop (j + 1)).map seT := by
     rw [show [T.v (.string (toB (s).1)), T.v (.int .i64 (s).2.1), T.v (.int .i64 (s).2.2.1), T.sl 2 ((s).2.2.2.map numT)] = seT s from rfl, ← List.map_set, List.append_assoc, List.cons_append, set_atG K x (st' ++ l.drop j) s K.length rfl, hdj]
     simp
    simp only [go_sem, hgx, ib2, hset, e2, ei]
    refine rd_of (j + 1, st' ++ [s]) (by simp only; omega) ⟨by simp only; omega, by simp, by simp only [hsucc]; simp at hjl ⊢; omega⟩ ?_
    simp only [hsucc, List.length_append, List.length_singleton]
    exact (sR [] [])
  ·obtain rfl : j = l.length := by omega
   have d2 : decide (l.length < l.length) = false := decide_eq_false (by omega)
   rw [List.take_length] at hjl
   simp only [List.take_length, List.drop_length, List.append_nil]
   have hKl : (leftG p l).length ≤ l.length := by rw [List.length_append] at hjl; omega
   generalize hK : leftG p l = K at *
   have hk1 : (0 : Int) ≤ (K.length : Int) := by omega
   have hk2 : (K.length : Int) ≤ (l.length : Int) := by omega
   have eN : ((l.length : Int) - (K.length : Int)).toNat = l.length - K.length := by omega
   have hlen : ((K ++ st).map seT).length = l.length := by simpa using hjl
   have hle2 : K.length + (l.length - K.length) ≤ l.length := by omega
   have hfin : List.take K.length ((K ++ st).map seT) ++ List.replicate (l.length - K.length) [T.v (.string (bs [])), T.v (.int .i64 0), T.v (.int .i64 0), T.v (.slice none 0 0)] ++ List.drop (K.length + (l.length - K.length)) ((K ++ st).map seT) = K.map seT ++ List.replicate (l.length - K.length) [T.v (.string (bs [])), T.v (.int .i64 0), T.v (.int .i64 0), T.v (.slice none 0 0)] := by
    rw [List.drop_eq_nil_of_le (by rw [hlen]; omega), List.map_append, List.take_append_of_le_length (by simp), List.take_of_length_le (by simp), List.append_nil]
   simp only [go_sem, d2, hk1, hk2, eN, hlen, hle2, hfin]
   refine wO [] [] ?_
   simp only [go_sem, r_slices_DeleteFunc_Sapi_Series_api_Series, exists_eq_left', Option.some.injEq]
   simp [wkV, wkL, slTrees, AV.asOwn, rowPart, stoOf, AV.isNil, shA, rowsT, cellsT, cellT, ren]

end Go.Proofs.YtgmpceijcdimkaaGreatDoor
namespace Go.Proofs.YtgmpceijcdimkaaGreatDoor
open Go Go.Sx

theorem f_choose_kept_1 (w : Nat) (c0 c1 : List T) (q : Ser → Bool) (s : Ser) (hw : Meets Tryz.prog E0 w ([serA s] ++ [.ptr 2 0, .ptr 3 0]) [(2, .box (c0.map .t)), (3, .box (c1.map .t))] (Bo (q s)) [(2, .box (c0.map .t)), (3, .box (c1.map .t))]) :
  Meets Tryz.prog E0 n_choose_kept_1 ([(.ag [Str (toB (s).1), I (s).2.1, I (s).2.2.1, numL (s).2.2.2])] ++ [.ptr 1 0]) [(1, .box [.fn w [] [.ptr 2 0, .ptr 3 0]]), (2, .box (c0.map .t)), (3, .box (c1.map .t))] (Bo (!q s)) [(1, .box [.fn w [] [.ptr 2 0, .ptr 3 0]]), (2, .box (c0.map .t)), (3, .box (c1.map .t))] := by
 simp only [List.singleton_append]
 refine m_choose_kept_1 (by simp) (shut_of (by simp [idsL, AV.ids, keysOf]) (by simp [Ob.live, Ob.ids, keysOf, idsL, AV.ids])) (shut_of (by simp [idsL, AV.ids, keysOf]) (by simp [Ob.live, Ob.ids, keysOf, idsL, AV.ids])) (by simp [keysOf]) (by simp [keysOf]) ?_
 simp only [go_sem, s_choose_kept_1]
 refine Cl_cap (hw) (by simp [keysOf, stoOf]) (by simp [keysOf]) (by simp [keysOf]) ?_
 simp only [go_sem]
 refine wO [] [] ?_
 simp only [go_sem, r_choose_kept_1, exists_eq_left', Option.some.injEq]
 simp [wkV, wkL, slTrees, AV.asOwn, rowPart, stoOf, AV.isNil, shA, rowsT, cellsT, cellT]

theorem f_IdxE_S (g w : Nat) (c0 c1 : List T) : Meets Tryz.prog E0 n_slices_IndexFunc_Sapi_Series_api_Series [.t (.sl 4 []), .fn g [] [.ptr 1 0]] [(1, .box [.fn w [] [.ptr 2 0, .ptr 3 0]]), (2, .box (c0.map .t)), (3, .box (c1.map .t))] (I (-1)) [(1, .box [.fn w [] [.ptr 2 0, .ptr 3 0]]), (2, .box (c0.map .t)), (3, .box (c1.map .t))] := by
 refine m_slices_IndexFunc_Sapi_Series_api_Series (by simp) (shut_of (by simp [idsL, AV.ids, keysOf]) (by simp [Ob.live, Ob.ids, keysOf, idsL, AV.ids])) (shut_of (by simp [idsL, AV.ids, keysOf]) (by simp [Ob.live, Ob.ids, keysOf, idsL, AV.ids])) (by simp [keysOf]) (by simp [keysOf]) ?_
 simp only [go_sem, s_slices_IndexFunc_Sapi_Series_api_Series]
 refine W_loop (fun _ : Nat => 0) (fun i => i = 0)
  (fun i => [(0, .t (.sl 4 [])), (1, .fn g [] [.ptr 1 0]), (7, I i), (8, I i)])
  (fun i => [(1, .box [.fn w [] [.ptr 2 0, .ptr 3 0]]), (2, .box (c0.map .t)), (3, .box (c1.map .t))]) 0 rfl (sR [] []) ?_
 rintro i rfl
 have d0 : decide (((0 : Nat) : Int) < ((0 : Nat) : Int)) = false := rfl
 simp only [go_sem, d0]
 refine wO [] [] ?_
 simp only [go_sem, r_slices_IndexFunc_Sapi_Series_api_Series, exists_eq_left', Option.some.injEq]
 simp [wkV, wkL, slTrees, AV.asOwn, rowPart, stoOf, AV.isNil, shA, rowsT, cellsT, cellT]

theorem f_DelE_S (g w : Nat) (c0 c1 : List T) : Meets Tryz.prog E0 n_slices_DeleteFunc_Sapi_Series_api_Series [.t (.sl 4 []), .fn g [] [.ptr 1 0]] [(1, .box [.fn w [] [.ptr 2 0, .ptr 3 0]]), (2, .box (c0.map .t)), (3, .box (c1.map .t))] (.t (.sl 4 [])) [(1, .box [.fn w [] [.ptr 2 0, .ptr 3 0]]), (2, .box (c0.map .t)), (3, .box (c1.map .t))] := by
 have bI := f_IdxE_S g w c0 c1
 refine m_slices_DeleteFunc_Sapi_Series_api_Series (by simp) (shut_of (by simp [idsL, AV.ids, keysOf]) (by simp [Ob.live, Ob.ids, keysOf, idsL, AV.ids])) (shut_of (by simp [idsL, AV.ids, keysOf]) (by simp [Ob.live, Ob.ids, keysOf, idsL, AV.ids])) (by simp [keysOf]) (by simp [keysOf]) ?_
 simp only [go_sem, s_slices_DeleteFunc_Sapi_Series_api_Series]
 refine oB (bI) ?_
 have d1 : decide ((-1 : Int) = -1) = true := rfl
 simp only [go_sem, d1]
 refine wO [] [] ?_
 simp only [go_sem, r_slices_DeleteFunc_Sapi_Series_api_Series, exists_eq_left', Option.some.injEq]
 simp [wkV, wkL, slTrees, AV.asOwn, rowPart, stoOf, AV.isNil, shA, rowsT, cellsT, cellT, ren]

theorem left_filt (q : Ser → Bool) (l : List Ser) : leftG (fun s => !q s) l = l.filter q := by
 unfold leftG; congr 1; funext n; rw [Bool.not_not]

theorem renL_t (f : Nat → Nat) (c : List T) : renL f (c.map .t) = c.map .t := by
 induction c with
 | nil => rfl
 | cons x c ih => simp only [List.map_cons, renL, renA, ih]

def renK : Nat → Nat
 | 0 => 700
 | 1 => 100
 | n => n

theorem f_choose_kept (w : Nat) (c0 c1 : List T) (q : Ser → Bool) (l : List Ser) (hl : l.length ≤ 100000) (hw : ∀ s ∈ l, Meets Tryz.prog E0 w ([serA s] ++ [.ptr 2 0, .ptr 3 0]) [(2, .box (c0.map .t)), (3, .box (c1.map .t))] (Bo (q s)) [(2, .box (c0.map .t)), (3, .box (c1.map .t))]) :
  Meets Tryz.prog E0 n_choose_kept [serL l, .fn w [] [.ptr 2 0, .ptr 3 0]] [(2, .box (c0.map .t)), (3, .box (c1.map .t))] (serL (l.filter q)) [(2, .box (c0.map .t)), (3, .box (c1.map .t))] := by
 refine m_choose_kept (by simp) (shut_of (by simp [idsL, AV.ids, keysOf]) (by simp [Ob.live, Ob.ids, keysOf, idsL, AV.ids])) (shut_of (by simp [idsL, AV.ids, keysOf]) (by simp [Ob.live, Ob.ids, keysOf, idsL, AV.ids])) (by simp [keysOf]) (by simp [keysOf]) ?_
 cases l with
 | nil =>
  have hd := (f_DelE_S n_choose_kept_1 w c0 c1).ren renK (by simp [keysOf, renK])
  simp only [renL, renA, renS, renO, renL_t, renK] at hd
  simp only [go_sem, s_choose_kept]
  refine Cl_plain f_CloneS_nil ?_
  simp only [go_sem]
  refine oB (hd) ?_
  simp only [go_sem]
  refine wO [] [] ?_
  simp only [go_sem, r_choose_kept, exists_eq_left', Option.some.injEq]
  simp [wkV, wkL, slTrees, AV.asOwn, rowPart, stoOf, AV.isNil, shA, rowsT, cellsT, cellT, ren]
 | cons a l =>
  have hc := f_CloneS_own 700 (seT a) (l.map seT) (by simp at hl ⊢; omega)
  have hd := (f_DelO_S n_choose_kept_1 w c0 c1 (fun s => !q s) (a :: l) hl (fun s hs => f_choose_kept_1 w c0 c1 q s (hw s hs))).ren renK (by simp [keysOf, renK])
  simp only [renL, renA, renS, renO, renL_t, renK] at hd
  rw [List.length_map] at hc
  rw [left_filt] at hd
  have hle : ((a :: l).filter q).length ≤ l.length + 1 := List.length_filter_le _ _
  simp only [List.map_cons, List.length_cons] at hd ⊢
  generalize (a :: l).filter q = k at *
  simp only [go_sem, s_choose_kept]
  refine Cl_new hc (by simp [keysOf, stoOf]) (by simp [keysOf]) ?_
  simp only [go_sem]
  refine oB (hd) ?_
  simp only [go_sem]
  refine wO [] [700] ?_
  simp only [go_sem, r_choose_kept, exists_eq_left', Option.some.injEq]
  simp [wkV, wkL, slTrees, AV.asOwn, rowPart, stoOf, AV.isNil, shA, rowsT, cellsT, cellT, ren]

end Go.Proofs.YtgmpceijcdimkaaGreatDoor
namespace Go.Proofs.YtgmpceijcdimkaaGreatDoor
open Go Go.Sx

def q1M (call : List UInt8) (x : Num) (s : Ser) : Bool := decide (0 < cmpM (valM (reckM (wayR call) s.2.2.2).isNone ((reckM (wayR call) s.2.2.2).getD 0)) (valM x.1 x.2))
def q2M (call : List UInt8) (x : Num) (s : Ser) : Bool := !(reckM (wayR call) s.2.2.2).isNone && decide (cmpM (valM (reckM (wayR call) s.2.2.2).isNone ((reckM (wayR call) s.2.2.2).getD 0)) (valM x.1 x.2) < 0)

theorem f_choose_choose_1 (call : List UInt8) (hc : call.length ≤ 1000000000) (x : Num) (a : List Num) (s : Ser) (hs : s.2.2.2.length ≤ 100000) (h : inS s) :
  Meets Tryz.prog E0 n_choose_choose_1 ([serA s] ++ [.ptr 2 0, .ptr 3 0]) [(2, .box ([T.v (.string (toB call))].map .t)), (3, .box ([T.sl 2 ((x :: a).map numT)].map .t))] (Bo (q1M call x s)) [(2, .box ([T.v (.string (toB call))].map .t)), (3, .box ([T.sl 2 ((x :: a).map numT)].map .t))] := by
 simp only [List.singleton_append, List.map_cons, List.map_nil]
 have hM := f_choose_Measure call hc s hs h
 have hC := f_fixed_Cmp (reckM (wayR call) s.2.2.2).isNone x.1 ((reckM (wayR call) s.2.2.2).getD 0) x.2
 have hx : numT x = [.v (.bool x.1), .v (.int .i64 x.2)] := rfl
 unfold q1M
 refine m_choose_choose_1 (by simp) (shut_of (by simp [idsL, AV.ids, keysOf]) (by simp [Ob.live, Ob.ids, keysOf, idsL, AV.ids])) (shut_of (by simp [idsL, AV.ids, keysOf]) (by simp [Ob.live, Ob.ids, keysOf, idsL, AV.ids])) (by simp [keysOf]) (by simp [keysOf]) ?_
 simp only [go_sem, s_choose_choose_1]
 refine Cl_plain hM ?_
 simp only [go_sem, hx]
 refine Cl_plain hC ?_
 simp only [go_sem]
 ((try (with_reducible refine rF ?_)); (try simp only [go_sem]))
 refine wO [] [] ?_
 simp only [go_sem, r_choose_choose_1, exists_eq_left', Option.some.injEq]
 simp [wkV, wkL, slTrees, AV.asOwn, rowPart, stoOf, AV.isNil, shA, rowsT, cellsT, cellT]

theorem f_choose_choose_2 (call : List UInt8) (hc : call.length ≤ 1000000000) (x : Num) (a : List Num) (s : Ser) (hs : s.2.2.2.length ≤ 100000) (h : inS s) :
  Meets Tryz.prog E0 n_choose_choose_2 ([serA s] ++ [.ptr 2 0, .ptr 3 0]) [(2, .box ([T.v (.string (toB call))].map .t)), (3, .box ([T.sl 2 ((x :: a).map numT)].map .t))] (Bo (q2M call x s)) [(2, .box ([T.v (.string (toB call))].map .t)), (3, .box ([T.sl 2 ((x :: a).map numT)].map .t))] := by
 simp only [List.singleton_append, List.map_cons, List.map_nil]
 have hM := f_choose_Measure call hc s hs h
 have hC := f_fixed_Cmp (reckM (wayR call) s.2.2.2).isNone x.1 ((reckM (wayR call) s.2.2.2).getD 0) x.2
 have hx : numT x = [.v (.bool x.1), .v (.int .i64 x.2)] := rfl
 unfold q2M
 generalize reckM (wayR call) s.2.2.2 = o at *
 refine m_choose_choose_2 (by simp) (shut_of (by simp [idsL, AV.ids, keysOf]) (by simp [Ob.live, Ob.ids, keysOf, idsL, AV.ids])) (shut_of (by simp [idsL, AV.ids, keysOf]) (by simp [Ob.live, Ob.ids, keysOf, idsL, AV.ids])) (by simp [keysOf]) (by simp [keysOf]) ?_
 simp only [go_sem, s_choose_choose_2]
 refine Cl_plain hM ?_
 cases o with
 | none =>
  simp only [go_sem, Option.isNone_none]
  ((try (with_reducible refine rF ?_)); (try simp only [go_sem]))
  refine wO [] [] ?_
  simp only [go_sem, r_choose_choose_2, exists_eq_left', Option.some.injEq]
  simp [wkV, wkL, slTrees, AV.asOwn, rowPart, stoOf, AV.isNil, shA, rowsT, cellsT, cellT]
 | some v =>
  simp only [Option.isNone_some, Option.getD_some] at hC ⊢
  simp only [go_sem, hx]
  refine Cl_plain hC ?_
  simp only [go_sem]
  ((try (with_reducible refine rF ?_)); (try simp only [go_sem]))
  refine wO [] [] ?_
  simp only [go_sem, r_choose_choose_2, exists_eq_left', Option.some.injEq]
  simp [wkV, wkL, slTrees, AV.asOwn, rowPart, stoOf, AV.isNil, shA, rowsT, cellsT, cellT]

end Go.Proofs.YtgmpceijcdimkaaGreatDoor
namespace Go.Proofs.YtgmpceijcdimkaaGreatDoor
open Go Go.Sx

def pieceM (l : List UInt8) (n : Nat) : List UInt8 := ((partsB 46 l)[n]?).getD []

end Go.Proofs.YtgmpceijcdimkaaGreatDoor
namespace Go.Proofs.YtgmpceijcdimkaaGreatDoor
open Go Go.Sx

end Go.Proofs.YtgmpceijcdimkaaGreatDoor
namespace Go.Proofs.YtgmpceijcdimkaaGreatDoor
open Go Go.Sx

theorem f_choose_choose_4 (tx : List UInt8) (s : Ser) : Meets Tryz.prog E0 n_choose_choose_4 ([serA s] ++ [.ptr 2 0]) [(2, .box ([T.v (.string (toB tx))].map .t))] (Str (toB tx)) [(2, .box ([T.v (.string (toB tx))].map .t))] := by
 simp only [List.singleton_append, List.map_cons, List.map_nil]
 refine m_choose_choose_4 (by simp) (shut_of (by simp [idsL, AV.ids, keysOf]) (by simp [Ob.live, Ob.ids, keysOf, idsL, AV.ids])) (shut_of (by simp [idsL, AV.ids, keysOf]) (by simp [Ob.live, Ob.ids, keysOf, idsL, AV.ids])) (by simp [keysOf]) (by simp [keysOf]) ?_
 simp only [go_sem, s_choose_choose_4]
 refine wO [] [] ?_
 simp only [go_sem, r_choose_choose_4, exists_eq_left', Option.some.injEq]
 simp [wkV, wkL, slTrees, AV.asOwn, rowPart, stoOf, AV.isNil, shA, rowsT, cellsT, cellT]

def renS1 (f : Ser → List UInt8) (s : Ser) : Ser := (f s, s.2)

/-- Renamed, if no name is too long. -/
def renamedV (f : Ser → List UInt8) (l : List Ser) : AV := .tp [serL (if l.all (fun s => decide ((f s).length ≤ 400)) = true then l.map (renS1 f) else []), I (if l.all (fun s => decide ((f s).length ≤ 400)) = true then 0 else 20)]

theorem f_choose_renamed (w : Nat) (c0 : List T) (f : Ser → List UInt8) (l : List Ser) (hl : l.length ≤ 100000) (hw : ∀ s ∈ l, Meets Tryz.prog E0 w ([serA s] ++ [.ptr 2 0]) [(2, .box (c0.map .t))] (Str (toB (f s))) [(2, .box (c0.map .t))]) :
  Meets Tryz.prog E0 n_choose_renamed [serL l, .fn w [] [.ptr 2 0]] [(2, .box (c0.map .t))] (renamedV f l) [(2, .box (c0.map .t))] := by
 unfold renamedV
 refine m_choose_renamed (by simp) (shut_of (by simp [idsL, AV.ids, keysOf]) (by simp [Ob.live, Ob.ids, keysOf, idsL, AV.ids])) (shut_of (by simp [idsL, AV.ids, keysOf]) (by simp [Ob.live, Ob.ids, keysOf, idsL, AV.ids])) (by simp [keysOf]) (by simp [keysOf]) ?_
 by_cases hne : l = []
 ·subst hne
  simp only [go_sem, s_choose_renamed]
  refine Cl_plain f_CloneS_nil ?_
  simp only [go_sem]
  refine W_loop (fun _ : Nat => 0) (fun i => i = 0)
   (fun i => [(1, .fn w [] [.ptr 2 0]), (6, .t (.sl 4 [])), (11, I i), (12, I i)])
   (fun i => [(2, .box (c0.map .t))]) 0 rfl (sR [] []) ?_
  rintro i rfl
  have d0 : decide (((0 : Nat) : Int) < ((0 : Nat) : Int)) = false := rfl
  simp only [go_sem, d0]
  refine wO [] [] ?_
  simp only [go_sem, r_choose_renamed, exists_eq_left', Option.some.injEq]
  simp [wkV, wkL, slTrees, AV.asOwn, rowPart, stoOf, AV.isNil, shA, rowsT, cellsT, cellT]
 ·have hc : Meets Tryz.prog E0 n_slices_Clone_Sapi_Series_api_Series [.t (.sl 4 (l.map seT))] [] (.own 700 4 0 l.length true) [(700, .row 4 true (l.map seT))] := by
   cases l with
   | nil => exact absurd rfl hne
   | cons a l =>
    have hc := f_CloneS_own 700 (seT a) (l.map seT) (by simp at hl ⊢; omega)
    rw [List.length_map] at hc
    exact hc
  simp only [go_sem, s_choose_renamed]
  refine Cl_new hc (by simp [keysOf, stoOf]) (by simp [keysOf]) ?_
  simp only [go_sem]
  refine W_loop (fun i : Nat => l.length - i) (fun i => i ≤ l.length ∧ (l.take i).all (fun s => decide ((f s).length ≤ 400)) = true)
   (fun i => [(1, .fn w [] [.ptr 2 0]), (6, .own 700 4 0 l.length true), (11, I l.length), (12, I i)])
   (fun i => [(700, .row 4 true (((l.take i).map (renS1 f) ++ l.drop i).map seT)), (2, .box (c0.map .t))]) 0 ⟨Nat.zero_le _, rfl⟩ ?_ ?_
  ·simp only [List.take_zero, List.map_nil, List.nil_append, List.drop_zero]
   exact (sR [] [])
  rintro i ⟨hi, hall⟩
  by_cases hil : i < l.length
  ·have d0 : decide (i < l.length) = true := decide_eq_true hil
   have ib : (i : Int) < (l.length : Int) := by omega
   obtain ⟨x, hx⟩ := get_of_lt hil
   have hdj := drop_get hx
   have htl : ((l.take i).map (renS1 f)).length = i := by rw [List.length_map, List.length_take]; omega
   have ei : IntKind.i64.wrap ((i : Int) + 1) = ((i + 1 : Nat) : Int) := by rw [wrap_i64_of (by omega) (by omega)]; omega
   have hgx : (((l.take i).map (renS1 f) ++ l.drop i).map seT)[i]? = some [.v (.string (toB x.1)), .v (.int .i64 x.2.1), .v (.int .i64 x.2.2.1), .sl 2 (x.2.2.2.map numT)] := by
    rw [List.getElem?_map, List.getElem?_append_right (by omega), htl, Nat.sub_self, hdj]; rfl
   have hxw := hw x (List.mem_of_getElem? hx)
   simp only [go_sem, d0, ib, hgx]
   refine Cl_cap (hxw) (by simp [keysOf, stoOf]) (by simp [keysOf]) (by simp [keysOf]) ?_
   have hset : (((l.take i).map (renS1 f) ++ l.drop i).map seT).set i [.v (.string (toB (f x))), .v (.int .i64 x.2.1), .v (.int .i64 x.2.2.1), .sl 2 (x.2.2.2.map numT)] = ((l.take (i + 1)).map (renS1 f) ++ l.drop (i + 1)).map seT := by
    rw [show [T.v (.string (toB (f x))), T.v (.int .i64 x.2.1), T.v (.int .i64 x.2.2.1), T.sl 2 (x.2.2.2.map numT)] = seT (renS1 f x) from rfl, ← List.map_set, hdj, set_atG _ x _ (renS1 f x) i htl, List.take_add_one, hx]
    simp
   have hgy : (((l.take (i + 1)).map (renS1 f) ++ l.drop (i + 1)).map seT)[i]? = some [.v (.string (toB (f x))), .v (.int .i64 x.2.1), .v (.int .i64 x.2.2.1), .sl 2 (x.2.2.2.map numT)] := by
    rw [← hset, List.getElem?_set_self (by rw [List.length_map, List.length_append, htl, List.length_drop]; omega)]
   cases h4 : decide ((400 : Int) < ((f x).length : Int))
   ·have h4' : (f x).length ≤ 400 := by have := of_decide_eq_false h4; omega
    have h5 : decide (400 < (f x).length) = false := decide_eq_false (by omega)
    simp only [go_sem, d0, ib, hgx, hset, hgy, toB_size, h4, h5, ei]
    exact rd_of (i + 1) (by first | omega | (simp only; omega)) ⟨by omega, all_take hx hall (decide_eq_true h4')⟩ (sR [] [])
   ·have h4' : ¬ (f x).length ≤ 400 := by have := of_decide_eq_true h4; omega
    have h5 : decide (400 < (f x).length) = true := decide_eq_true (by omega)
    rw [all_no hx (p := fun s => decide ((f s).length ≤ 400)) (decide_eq_false h4')]
    simp only [go_sem, d0, ib, hgx, hset, hgy, toB_size, h4, h5]
    refine wO [] [] ?_
    simp only [go_sem, r_choose_renamed, exists_eq_left', Option.some.injEq]
    simp [wkV, wkL, slTrees, AV.asOwn, rowPart, stoOf, AV.isNil, shA, rowsT, cellsT, cellT]
  ·obtain rfl : i = l.length := by omega
   have d0 : decide (l.length < l.length) = false := decide_eq_false (by omega)
   rw [List.take_length] at hall
   simp only [List.take_length, List.drop_length, List.append_nil]
   rw [hall, if_pos rfl, if_pos rfl]
   simp only [go_sem, d0]
   refine wO [] [700] ?_
   simp only [go_sem, r_choose_renamed, exists_eq_left', Option.some.injEq]
   simp [wkV, wkL, slTrees, AV.asOwn, rowPart, stoOf, AV.isNil, shA, rowsT, cellsT, cellT, List.take_of_length_le]

end Go.Proofs.YtgmpceijcdimkaaGreatDoor
namespace Go.Proofs.YtgmpceijcdimkaaGreatDoor
open Go Go.Sx

def idxN (n : Num) : Nat := (n.2 / 1000000).toNat
def piecesM (l : List UInt8) (a : List Num) : List UInt8 := Lib.join (a.map fun n => pieceM l (idxN n)) [46]

theorem piece_at (l : List UInt8) (k : Nat) : (splitsB (toB l))[k]? = (if k < (splitsB (toB l)).length then some (toB (pieceM l k)) else none) := by
 by_cases h : k < (splitsB (toB l)).length
 ·rw [if_pos h, List.getElem?_eq_getElem h]
  congr 1
  apply bytes_ext
  have e := splits_parts (toB l)
  have e2 := congrArg (fun x => x[k]?) e
  simp only [List.getElem?_map, List.getElem?_eq_getElem h, Option.map_some, toB_data] at e2
  rw [toB_data, pieceM, ← e2]
  rfl
 ·rw [if_neg h, List.getElem?_eq_none (by omega)]

theorem piece_none (l : List UInt8) (k : Nat) (h : (splitsB (toB l)).length ≤ k) : pieceM l k = [] := by
 have e := congrArg List.length (splits_parts (toB l))
 rw [List.length_map, toB_data] at e
 unfold pieceM
 rw [List.getElem?_eq_none (by omega)]
 rfl

theorem piece_len (l : List UInt8) (k : Nat) : (pieceM l k).length ≤ l.length := by
 unfold pieceM
 rcases Nat.lt_or_ge k (partsB 46 l).length with h | h
 ·rw [List.getElem?_eq_getElem h]
  exact (parts_sum 46 l).2 _ (List.getElem_mem h)
 ·rw [List.getElem?_eq_none h]; simp

theorem lens_le (xs : List (List UInt8)) (B : Nat) (h : ∀ x ∈ xs, x.length ≤ B) : Lib.lens xs ≤ xs.length * B := by
 induction xs with
 | nil => simp [Lib.lens]
 | cons x xs ih =>
  have h1 := h x (by simp)
  have h2 := ih (fun y hy => h y (by simp [hy]))
  simp only [Lib.lens, List.map_cons, List.sum_cons, List.length_cons] at h2 ⊢
  rw [Nat.add_mul]; omega

theorem join_le (xs : List (List UInt8)) (B : Nat) (h : ∀ x ∈ xs, x.length ≤ B) : (Lib.join xs [46]).length ≤ xs.length * (B + 1) := by
 cases xs with
 | nil => simp [Lib.join_nil]
 | cons x r =>
  have := lens_le (x :: r) B h
  rw [Lib.join_length]
  simp only [List.length_cons, List.length_nil] at this ⊢
  rw [Nat.mul_add]; omega

def cellP (l : List UInt8) (n : Num) : List T := rowS (toB (pieceM l (idxN n)))

theorem f_choose_pieces (l : List UInt8) (a : List Num) (hl : l.length ≤ 100000) (ha : a.length ≤ 100000) (h : a.all wholeN = true) (hne : a ≠ []) : Meets Tryz.prog E0 n_choose_pieces [Str (toB l), .t (.sl 1 (a.map cellW))] [] (Str (toB (piecesM l a))) [] := by
 have hS := f_strings_Split (toB l) (by rw [toB_size]; omega)
 have hml : ∀ x ∈ (a.map fun n => toB (pieceM l (idxN n))).map (·.data.toList), x.length ≤ 100000 := by
  intro x hx
  simp only [List.mem_map] at hx
  obtain ⟨_, ⟨n, _, rfl⟩, rfl⟩ := hx
  have := piece_len l (idxN n)
  rw [toB_data]; omega
 have hjl := join_le _ 100000 hml
 simp only [List.length_map] at hjl
 have hJ := f_Join (a.map fun n => toB (pieceM l (idxN n))) (bs [46]) (by rw [List.length_map]; omega) (by show (Lib.join _ [46]).length ≤ _; exact Nat.le_trans hjl (by omega))
 have eJ : joinB (a.map fun n => toB (pieceM l (idxN n))) (bs [46]) = toB (piecesM l a) := by
  unfold joinB piecesM
  rw [List.map_map]; rfl
 rw [eJ] at hJ
 have hps := splits_length (toB l)
 have hpl : (splitsB (toB l)).length ≤ 100001 := by
  have := congrArg List.length (splits_parts (toB l))
  have h2 := (parts_sum 46 l).1
  rw [List.length_map, toB_data] at this
  omega
 have hpc := piece_at l
 have hpn := piece_none l
 have hk : ((splitsB (toB l)).map rowS).length = (splitsB (toB l)).length := List.length_map ..
 clear hps hjl hml eJ
 refine st0 m_choose_pieces ?_
 have hz : (a.map cellW).length = a.length := by simp
 simp only [go_sem, s_choose_pieces]
 refine Cl_plain hS ?_
 generalize splitsB (toB l) = ps at *
 simp only [go_sem, s_choose_pieces, hz]
 refine W_loop (fun i : Nat => a.length - i) (fun i => i ≤ a.length)
  (fun i => [(5, .t (.sl 1 (ps.map rowS))), (6, .own 999 1 0 i (decide (0 < i))), (11, .t (.sl 1 (a.map cellW))), (12, I a.length), (13, I i)])
  (fun i => [(999, .row 1 (decide (0 < i)) ((a.take i).map (cellP l)))]) 0 (Nat.zero_le _) ?_ ?_
 ·simp only [List.take_zero, List.map_nil, Nat.lt_irrefl, decide_false]
  exact (sR [(999, 888)] [])
 rintro i hi
 have htl : ((a.take i).map (cellP l)).length = i := by rw [List.length_map, List.length_take]; omega
 have ht2 : (a.take i).length = i := by rw [List.length_take]; omega
 have ht3 : (i = (a.take i).length) = True := eq_true ht2.symm
 by_cases hil : i < a.length
 ·have d0 : decide (i < a.length) = true := decide_eq_true hil
  obtain ⟨n, hn⟩ := get_of_lt hil
  have hv := List.all_eq_true.1 h n (List.mem_of_getElem? hn)
  unfold wholeN at hv
  simp only [Bool.and_eq_true, decide_eq_true_eq] at hv
  obtain ⟨hv1, hv2, hv3⟩ := hv
  have hg : (a.map cellW)[i]? = some [.v (.int .i64 (n.2 / 1000000))] := by rw [List.getElem?_map, hn]; rfl
  have ei : IntKind.i64.wrap ((i : Int) + 1) = ((i + 1 : Nat) : Int) := by rw [wrap_i64_of (by omega) (by omega)]; omega
  have ek : n.2 / 1000000 = ((idxN n : Nat) : Int) := by unfold idxN; omega
  have b1 : (i + 1) * 16 ≤ 2 ^ 47 := by omega
  have b2 : i + 1 < 2 ^ 47 := by omega
  have di1 : decide (0 < i + 1) = true := decide_eq_true (by omega)
  have tf : (a.take (i + 1)).map (cellP l) = (a.take i).map (cellP l) ++ [cellP l n] := by rw [List.take_add_one, hn, List.map_append]; rfl
  rw [ek] at hg
  cases k1 : decide ((idxN n : Nat) < ps.length)
  ·have k1' := of_decide_eq_false k1
   have ep : cellP l n = [.v (.string (bs []))] := by unfold cellP; rw [hpn _ (by omega)]; rfl
   simp only [go_sem, hz, d0, hg, k1, hk]
   ((try (with_reducible refine rF ?_)); (try simp only [go_sem, hz, d0, hg, k1, hk, b1, b2, ei, htl, ht2, ht3]))
   ((try (with_reducible refine rF ?_)); (try simp only [go_sem, ei]))
   clear b1 b2
   refine rd_of (i + 1) (by first | omega | (simp only; omega)) (by omega) ?_
   rw [di1, tf, ep]
   exact (sR [(999, 126)] [])
  ·have k1' := of_decide_eq_true k1
   have hgp : (ps.map rowS)[idxN n]? = some [.v (.string (toB (pieceM l (idxN n))))] := by rw [List.getElem?_map, hpc, if_pos k1']; rfl
   have ep : cellP l n = [.v (.string (toB (pieceM l (idxN n))))] := rfl
   have c1 : ((idxN n : Int) < (ps.length : Int)) = True := eq_true (by omega)
   simp only [go_sem, hz, d0, hg, k1, hk, hgp, c1]
   ((try (with_reducible refine rF ?_)); (try simp only [go_sem, hz, d0, hg, k1, hk, hgp, c1, b1, b2, ei, htl, ht2, ht3]))
   ((try (with_reducible refine rF ?_)); (try simp only [go_sem, ei]))
   clear b1 b2
   refine rd_of (i + 1) (by first | omega | (simp only; omega)) (by omega) ?_
   rw [di1, tf, ep]
   exact (sR [(999, 122)] [])
 ·obtain rfl : i = a.length := by omega
  have d0 : decide (a.length < a.length) = false := decide_eq_false (by omega)
  have hp : decide (0 < a.length) = true := decide_eq_true (List.length_pos_iff.2 hne)
  rw [List.take_length] at htl ⊢
  rw [hp]
  simp only [go_sem, hz, d0]
  refine Cl_show [999] hJ ?_ (by simp [stoOf]) ?_
  ·exact .one (Wk.row (by simp [slTrees, AV.asOwn, rowPart, stoOf, Function.comp_def, cellP, List.take_of_length_le]) (by simp)) (.one (Wk.refl _) .nil)
  simp only [go_sem]
  refine wE ?_
  simp only [go_sem, r_choose_pieces, exists_eq_left', Option.some.injEq]

end Go.Proofs.YtgmpceijcdimkaaGreatDoor
namespace Go.Proofs.YtgmpceijcdimkaaGreatDoor
open Go Go.Sx

theorem f_choose_choose_5 (a : List Num) (s : Ser) (hs : s.1.length ≤ 100000) (ha : a.length ≤ 100000) (h : a.all wholeN = true) (hne : a ≠ []) : Meets Tryz.prog E0 n_choose_choose_5 ([serA s] ++ [.ptr 2 0]) [(2, .box ([T.sl 1 (a.map cellW)].map .t))] (Str (toB (piecesM s.1 a))) [(2, .box ([T.sl 1 (a.map cellW)].map .t))] := by
 simp only [List.singleton_append, List.map_cons, List.map_nil]
 have hP := f_choose_pieces s.1 a hs ha h hne
 refine m_choose_choose_5 (by simp) (shut_of (by simp [idsL, AV.ids, keysOf]) (by simp [Ob.live, Ob.ids, keysOf, idsL, AV.ids])) (shut_of (by simp [idsL, AV.ids, keysOf]) (by simp [Ob.live, Ob.ids, keysOf, idsL, AV.ids])) (by simp [keysOf]) (by simp [keysOf]) ?_
 simp only [go_sem, s_choose_choose_5]
 refine Cl_plain hP ?_
 simp only [go_sem]
 ((try (with_reducible refine rF ?_)); (try simp only [go_sem]))
 refine wO [] [] ?_
 simp only [go_sem, r_choose_choose_5, exists_eq_left', Option.some.injEq]
 simp [wkV, wkL, slTrees, AV.asOwn, rowPart, stoOf, AV.isNil, shA, rowsT, cellsT, cellT]

end Go.Proofs.YtgmpceijcdimkaaGreatDoor
namespace Go.Proofs.YtgmpceijcdimkaaGreatDoor
open Go Go.Sx

/-- Bytes as the bits of a number; its four words. -/
abbrev setL (n : Nat) : List AV := [U ((n % 18446744073709551616 : Nat) : Int), U ((n / 18446744073709551616 % 18446744073709551616 : Nat) : Int), U ((n / 340282366920938463463374607431768211456 % 18446744073709551616 : Nat) : Int), U ((n / (18446744073709551616 * 340282366920938463463374607431768211456) % 18446744073709551616 : Nat) : Int)]
abbrev setV (n : Nat) : AV := .ag (setL n)
abbrev full : Nat := 2 ^ 256 - 1

abbrev Item := Nat × Bool
abbrev itemV (i : Item) : AV := .ag (setL i.1 ++ [Bo i.2])
def itemT (i : Item) : List T := [.v (.int .u64 ((i.1 % 18446744073709551616 : Nat) : Int)), .v (.int .u64 ((i.1 / 18446744073709551616 % 18446744073709551616 : Nat) : Int)), .v (.int .u64 ((i.1 / 340282366920938463463374607431768211456 % 18446744073709551616 : Nat) : Int)), .v (.int .u64 ((i.1 / (18446744073709551616 * 340282366920938463463374607431768211456) % 18446744073709551616 : Nat) : Int)), .v (.bool i.2)]
abbrev itemsV (l : List Item) : AV := .t (.sl 5 (l.map itemT))
abbrev needleV (a b : Bool) (l : List Item) : AV := .ag [Bo a, Bo b, itemsV l]

/-- All bytes from one on, so many. -/
def addN (n b : Nat) : Nat → Nat
 | 0 => n
 | k + 1 => addN (n ||| 2 ^ b) (b + 1) k

def skipM (b : Nat) : List UInt8 → Bool × List UInt8
 | c :: r => if c.toNat = b then (true, r) else (false, c :: r)
 | [] => (false, [])

def rangedB : List UInt8 → Bool
 | d :: h :: _ => d.toNat == 45 && h.toNat != 93
 | _ => false

/-- The rest of a class: the bytes, whether it is one, what is left. -/
def classX : List UInt8 → Bool → Nat → Nat × Bool × List UInt8
 | [], _, n => (n, false, [])
 | c :: r, m, n => if c.toNat = 93 then (n, m, r) else
  match r with
  | [] => classX [] true (n ||| 2 ^ c.toNat)
  | [d] => classX [d] true (n ||| 2 ^ c.toNat)
  | d :: h :: r' => if d.toNat == 45 && h.toNat != 93 then (if h.toNat < c.toNat then (n, false, r') else classX r' true (addN n c.toNat (h.toNat + 1 - c.toNat))) else classX (d :: h :: r') true (n ||| 2 ^ c.toNat)

def cplM (n : Nat) : Nat := full - n

def classM (l : List UInt8) : Nat × Bool × List UInt8 :=
 (if (classX (skipM 94 l).2 false 0).2.1 && (skipM 94 l).1 then cplM (classX (skipM 94 l).2 false 0).1 else (classX (skipM 94 l).2 false 0).1, (classX (skipM 94 l).2 false 0).2.1, (classX (skipM 94 l).2 false 0).2.2)

def atomM : List UInt8 → Nat × Bool × List UInt8
 | [] => (0, false, [])
 | c :: r => if c.toNat = 94 ∨ c.toNat = 36 ∨ c.toNat = 42 ∨ c.toNat = 93 then (0, false, r) else if c.toNat = 46 then (full, true, r) else if c.toNat = 91 then classM r else if c.toNat = 92 then (match r with
  | [] => (1, false, [])
  | d :: r' => (2 ^ d.toNat, true, r')) else (2 ^ c.toNat, true, r)

/-- The items of a pattern; with fuel. -/
def itemsM : Nat → List UInt8 → List Item → Option (Bool × List Item)
 | 0, _, acc => some (false, acc)
 | _ + 1, [], acc => some (false, acc)
 | f + 1, c :: r, acc => if r = [] ∧ c.toNat = 36 then some (true, acc) else if (atomM (c :: r)).2.1 then itemsM f (skipM 42 (atomM (c :: r)).2.2).2 (acc ++ [((atomM (c :: r)).1, (skipM 42 (atomM (c :: r)).2.2).1)]) else none

def compM (l : List UInt8) : (Bool × Bool × List Item) × Int :=
 if 64 < l.length then ((false, false, []), 12) else
  match itemsM (l.length + 1) (skipM 94 l).2 [] with
  | none => ((false, false, []), 10)
  | some (e, is) => (((skipM 94 l).1, e, is), 0)

theorem classX_end (c : UInt8) (r : List UInt8) (m : Bool) (n : Nat) (h : c.toNat = 93) : classX (c :: r) m n = (n, m, r) := by
 rcases r with _ | ⟨d, _ | ⟨x, r⟩⟩ <;> simp [classX, h]

theorem classX_one (c : UInt8) (r : List UInt8) (m : Bool) (n : Nat) (h : ¬ c.toNat = 93) (hr : rangedB r = false) : classX (c :: r) m n = classX r true (n ||| 2 ^ c.toNat) := by
 rcases r with _ | ⟨d, _ | ⟨x, r⟩⟩
 ·simp [classX, h]
 ·simp [classX, h]
 ·simp only [rangedB] at hr
  rw [classX, if_neg h]; simp only [hr]; rfl

theorem classX_range (c d x : UInt8) (r : List UInt8) (m : Bool) (n : Nat) (h : ¬ c.toNat = 93) (hr : rangedB (d :: x :: r) = true) : classX (c :: d :: x :: r) m n = if x.toNat < c.toNat then (n, false, r) else classX r true (addN n c.toNat (x.toNat + 1 - c.toNat)) := by
 simp only [rangedB] at hr
 rw [classX, if_neg h]; simp only [hr, if_true]

theorem ranged_shape {r : List UInt8} (h : rangedB r = true) : ∃ d x r', r = d :: x :: r' := by
 rcases r with _ | ⟨d, _ | ⟨x, r⟩⟩
 ·simp [rangedB] at h
 ·simp [rangedB] at h
 ·exact ⟨d, x, r, rfl⟩

/-- A word of a number of four. -/
def word (n k : Nat) : Nat := n / 2 ^ (64 * k) % 2 ^ 64

theorem word_bit (n k i : Nat) (hi : i < 64) : (word n k).testBit i = n.testBit (64 * k + i) := by
 rw [word, Nat.testBit_mod_two_pow, Nat.testBit_div_two_pow]; simp [hi, Nat.add_comm]

theorem word_lt (n k : Nat) : word n k < 2 ^ 64 := Nat.mod_lt _ (by decide)

theorem word_eq {n m k : Nat} (h : ∀ i < 64, n.testBit (64 * k + i) = m.testBit (64 * k + i)) : word n k = word m k := by
 apply Nat.eq_of_testBit_eq
 intro i
 by_cases hi : i < 64
 ·rw [word_bit _ _ _ hi, word_bit _ _ _ hi, h i hi]
 ·rw [Nat.testBit_lt_two_pow (Nat.lt_of_lt_of_le (word_lt n k) (Nat.pow_le_pow_right (by decide) (by omega))), Nat.testBit_lt_two_pow (Nat.lt_of_lt_of_le (word_lt m k) (Nat.pow_le_pow_right (by decide) (by omega)))]

theorem word_or_same (n k b : Nat) (h : b / 64 = k) : word (n ||| 2 ^ b) k = word n k ||| 2 ^ (b % 64) := by
 apply Nat.eq_of_testBit_eq
 intro i
 by_cases hi : i < 64
 ·rw [word_bit _ _ _ hi, Nat.testBit_or, Nat.testBit_or, word_bit _ _ _ hi, Nat.testBit_two_pow, Nat.testBit_two_pow]
  congr 1
  rw [decide_eq_decide]; omega
 ·have h1 : word n k ||| 2 ^ (b % 64) < 2 ^ 64 := Nat.or_lt_two_pow (word_lt n k) (Nat.pow_lt_pow_right (by decide) (by omega))
  rw [Nat.testBit_lt_two_pow (Nat.lt_of_lt_of_le (word_lt _ k) (Nat.pow_le_pow_right (by decide) (by omega))), Nat.testBit_lt_two_pow (Nat.lt_of_lt_of_le h1 (Nat.pow_le_pow_right (by decide) (by omega)))]

theorem word_or_other (n k b : Nat) (h : b / 64 ≠ k) : word (n ||| 2 ^ b) k = word n k := by
 apply word_eq
 intro i hi
 rw [Nat.testBit_or, Nat.testBit_two_pow]
 have : ¬ b = 64 * k + i := by omega
 simp [this]

theorem word0 (n : Nat) : n % 18446744073709551616 = word n 0 := by simp [word]
theorem word1 (n : Nat) : n / 18446744073709551616 % 18446744073709551616 = word n 1 := rfl
theorem word2 (n : Nat) : n / 340282366920938463463374607431768211456 % 18446744073709551616 = word n 2 := rfl
theorem word3 (n : Nat) : n / (18446744073709551616 * 340282366920938463463374607431768211456) % 18446744073709551616 = word n 3 := rfl

theorem words_inj {n m : Nat} (hn : n < 2 ^ 256) (hm : m < 2 ^ 256) (h0 : word n 0 = word m 0) (h1 : word n 1 = word m 1) (h2 : word n 2 = word m 2) (h3 : word n 3 = word m 3) : n = m := by
 apply Nat.eq_of_testBit_eq
 intro i
 by_cases hi : i < 256
 ·have key : ∀ k, word n k = word m k → i / 64 = k → n.testBit i = m.testBit i := by
   intro k hk hik
   have := word_bit n k (i % 64) (by omega)
   have h' := word_bit m k (i % 64) (by omega)
   rw [hk, h', show 64 * k + i % 64 = i by omega] at this
   exact this.symm
  have : i / 64 = 0 ∨ i / 64 = 1 ∨ i / 64 = 2 ∨ i / 64 = 3 := by omega
  rcases this with h | h | h | h
  ·exact key 0 h0 h
  ·exact key 1 h1 h
  ·exact key 2 h2 h
  ·exact key 3 h3 h
 ·rw [Nat.testBit_lt_two_pow (Nat.lt_of_lt_of_le hn (Nat.pow_le_pow_right (by decide) (by omega))), Nat.testBit_lt_two_pow (Nat.lt_of_lt_of_le hm (Nat.pow_le_pow_right (by decide) (by omega)))]

theorem full_bit (i : Nat) (h : i < 256) : Nat.testBit full i = true := by
 rw [Nat.testBit_two_pow_sub_one]; simpa using h

theorem cpl_bit (n i : Nat) (hn : n < 2 ^ 256) (h : i < 256) : (cplM n).testBit i = !n.testBit i := by
 unfold cplM
 rw [Nat.sub_sub, Nat.add_comm 1 n, Nat.testBit_two_pow_sub_succ hn]
 simp [h]

theorem cpl_lt (n : Nat) : cplM n < 2 ^ 256 := by unfold cplM; exact Nat.lt_of_le_of_lt (Nat.sub_le _ _) (by decide)

theorem addM_lt : ∀ (k n b : Nat), n < 2 ^ 256 → b + k ≤ 256 → addN n b k < 2 ^ 256
 | 0, n, b, h, _ => h
 | k + 1, n, b, h, hb => addM_lt k _ _ (Nat.or_lt_two_pow h (Nat.pow_lt_pow_right (by decide) (by omega))) (by omega)

theorem addM_snoc : ∀ (k n b : Nat), addN n b (k + 1) = addN n b k ||| 2 ^ (b + k)
 | 0, n, b => rfl
 | k + 1, n, b => by
  rw [addN, addM_snoc k (n ||| 2 ^ b) (b + 1), addN]
  congr 2; omega

theorem addM_bit : ∀ (k n b i : Nat), (addN n b k).testBit i = (n.testBit i || (decide (b ≤ i) && decide (i < b + k)))
 | 0, n, b, i => by
  have : (decide (b ≤ i) && decide (i < b + 0)) = false := by simp
  simp only [addN, this, Bool.or_false]
 | k + 1, n, b, i => by
  rw [addM_snoc, Nat.testBit_or, addM_bit k n b i, Nat.testBit_two_pow, Bool.or_assoc]
  congr 1
  rw [Bool.eq_iff_iff]; simp; omega

theorem skip_suf (b : Nat) (l : List UInt8) : (skipM b l).2 <:+ l := by
  cases l with
  | nil => simp [skipM]
  | cons c r => simp only [skipM]; split
                · exact List.suffix_cons c r
                · exact List.suffix_refl _

theorem classX_suf : ∀ (k : Nat) (l : List UInt8) (m : Bool) (n : Nat), l.length ≤ k → (classX l m n).2.2 <:+ l
 | _, [], _, _, _ => by simp [classX]
 | 0, _ :: _, _, _, h => by simp at h
 | k + 1, c :: r, m, n, h => by
  by_cases h1 : c.toNat = 93
  ·rw [classX_end c r m n h1]; exact List.suffix_cons c r
  ·cases hr : rangedB r with
   | false => rw [classX_one c r m n h1 hr]; exact (classX_suf k r _ _ (by simpa using h)).trans (List.suffix_cons c r)
   | true =>
    obtain ⟨d, x, r', rfl⟩ := ranged_shape hr
    rw [classX_range c d x r' m n h1 hr]
    have hs : r' <:+ c :: d :: x :: r' := (List.suffix_cons x r').trans ((List.suffix_cons d _).trans (List.suffix_cons c _))
    split
    ·exact hs
    ·exact (classX_suf k r' _ _ (by simp at h; omega)).trans hs

theorem classX_lt : ∀ (k : Nat) (l : List UInt8) (m : Bool) (n : Nat), l.length ≤ k → n < 2 ^ 256 → (classX l m n).1 < 2 ^ 256
 | _, [], _, n, _, hn => by simpa [classX] using hn
 | 0, _ :: _, _, _, h, _ => by simp at h
 | k + 1, c :: r, m, n, h, hn => by
  have hc := u8_lt c
  by_cases h1 : c.toNat = 93
  ·rw [classX_end c r m n h1]; exact hn
  ·cases hr : rangedB r with
   | false => rw [classX_one c r m n h1 hr]; exact classX_lt k r _ _ (by simpa using h) (Nat.or_lt_two_pow hn (Nat.pow_lt_pow_right (by decide) hc))
   | true =>
    obtain ⟨d, x, r', rfl⟩ := ranged_shape hr
    have hx := u8_lt x
    rw [classX_range c d x r' m n h1 hr]
    split
    ·exact hn
    ·exact classX_lt k r' _ _ (by simp at h; omega) (addM_lt _ _ _ hn (by omega))

theorem classM_suf (l : List UInt8) : (classM l).2.2 <:+ l := (classX_suf _ _ _ _ (Nat.le_refl _)).trans (skip_suf 94 l)

theorem classM_lt (l : List UInt8) : (classM l).1 < 2 ^ 256 := by
 unfold classM
 simp only
 split
 ·exact cpl_lt _
 ·exact classX_lt _ _ _ _ (Nat.le_refl _) (Nat.two_pow_pos _)

theorem atomM_suf (c : UInt8) (r : List UInt8) : (atomM (c :: r)).2.2 <:+ r := by
 simp only [atomM]
 split
 ·exact List.suffix_refl _
 split
 ·exact List.suffix_refl _
 split
 ·exact classM_suf r
 split
 ·cases r with
  | nil => exact List.suffix_refl _
  | cons d r => exact List.suffix_cons d r
 ·exact List.suffix_refl _

theorem atomM_lt (l : List UInt8) : (atomM l).1 < 2 ^ 256 := by
  cases l with
  | nil => exact Nat.two_pow_pos _
  | cons c r =>
    have hc := u8_lt c
    have pw : ∀ d : UInt8, 2 ^ d.toNat < 2 ^ 256 := fun d => Nat.pow_lt_pow_right (by decide) (u8_lt d)
    simp only [atomM]
    split
    · exact Nat.two_pow_pos _
    split
    · show full < 2 ^ 256
      decide
    split
    · exact classM_lt r
    split
    · cases r with
      | nil => show 1 < 2 ^ 256
               decide
      | cons d r => exact pw d
    · exact pw c

theorem full_add : addN 0 0 256 = full := by
 apply words_inj (addM_lt _ _ _ (Nat.two_pow_pos _) (by decide)) (by decide)
 all_goals
  apply word_eq
  intro i hi
  rw [addM_bit, full_bit _ (by omega)]
  simp; omega

theorem one_add (b : Nat) : addN 0 b 1 = 2 ^ b := by simp [addN]

theorem itemsM_len : ∀ (f : Nat) (l : List UInt8) (acc : List Item) (e : Bool) (is : List Item), itemsM f l acc = some (e, is) → is.length ≤ acc.length + l.length
 | 0, l, acc, e, is, h => by simp only [itemsM, Option.some.injEq, Prod.mk.injEq] at h; rw [← h.2]; omega
 | f + 1, [], acc, e, is, h => by simp only [itemsM, Option.some.injEq, Prod.mk.injEq] at h; rw [← h.2]; omega
 | f + 1, c :: r, acc, e, is, h => by
  simp only [itemsM] at h
  split at h
  ·simp only [Option.some.injEq, Prod.mk.injEq] at h; rw [← h.2]; omega
  ·split at h
   ·have := itemsM_len f _ _ e is h
    have h1 := (skip_suf 42 (atomM (c :: r)).2.2).length_le
    have h2 := (atomM_suf c r).length_le
    simp at this ⊢; omega
   ·cases h

theorem compM_len (l : List UInt8) : (compM l).1.2.2.length ≤ 64 := by
 unfold compM
 split
 ·simp
 ·cases h : itemsM (l.length + 1) (skipM 94 l).2 [] with
  | none => simp
  | some x =>
   obtain ⟨e, is⟩ := x
   have h1 := itemsM_len _ _ _ _ _ h
   have h2 := (skip_suf 94 l).length_le
   simp at h1 ⊢; omega

end Go.Proofs.YtgmpceijcdimkaaGreatDoor
namespace Go.Proofs.YtgmpceijcdimkaaGreatDoor
open Go Go.Sx

abbrev bT (b : Bool) : List T := [.v (.bool b)]
abbrev boolsV (l : List Bool) : AV := .t (.sl 1 (l.map bT))

def starAt (is : List Item) (i : Nat) : Bool := (is[i]?.map (·.2)).getD false
def fitAt (is : List Item) (i b : Nat) : Bool := (is[i]?.map fun x => x.1.testBit b).getD false

/-- An item may come next, and those behind it. -/
def reachM (is : List Item) : Nat → Nat → List Bool → List Bool
 | 0, _, s => s
 | f + 1, i, s => if s.getD i false then s else if starAt is i then reachM is f (i + 1) (s.set i true) else s.set i true

/-- The states behind a byte: so many items are looked at. -/
def stepN (is : List Item) (s : List Bool) (b : Nat) : Nat → List Bool
 | 0 => List.replicate (is.length + 1) false
 | k + 1 => if s.getD k false && fitAt is k b then reachM is (is.length + 1) (if starAt is k then k else k + 1) (stepN is s b k) else stepN is s b k
def stepM (is : List Item) (s : List Bool) (b : Nat) : List Bool := stepN is s b is.length

def walkM (start stop : Bool) (is : List Item) : List UInt8 → List Bool → Bool
 | [], s => s.getD is.length false
 | c :: r, s => if s.getD is.length false && !stop then true else walkM start stop is r (if start then stepM is s c.toNat else reachM is (is.length + 1) 0 (stepM is s c.toNat))
def foundM (start stop : Bool) (is : List Item) (tx : List UInt8) : Bool := walkM start stop is tx (reachM is (is.length + 1) 0 (List.replicate (is.length + 1) false))

theorem reachM_len (is : List Item) : ∀ (f i : Nat) (s : List Bool), (reachM is f i s).length = s.length
 | 0, _, _ => rfl
 | f + 1, i, s => by
  simp only [reachM]
  split
  ·rfl
  ·split
   ·rw [reachM_len is f]; simp
   ·simp

theorem stepN_len (is : List Item) (s : List Bool) (b : Nat) : ∀ k, (stepN is s b k).length = is.length + 1
 | 0 => by simp [stepN]
 | k + 1 => by
  simp only [stepN]
  split
  ·rw [reachM_len, stepN_len is s b k]
  ·exact stepN_len is s b k

theorem stepM_len (is : List Item) (s : List Bool) (b : Nat) : (stepM is s b).length = is.length + 1 := stepN_len is s b _

/-! ### Where the items so far can end -/

end Go.Proofs.YtgmpceijcdimkaaGreatDoor
namespace Go.Proofs.YtgmpceijcdimkaaGreatDoor
open Go Go.Sx

/-- A byte. -/
abbrev U8 (n : Nat) : AV := .t (.v (.int .u8 ((n : Nat) : Int)))

/-- The reader of a pattern, ahead of what is left. -/
abbrev pst (s : ByteArray) (rest : List UInt8) : Ob := .box [.t (.v (.string s)), I ((s.size - rest.length : Nat) : Int)]

theorem wO_NdParse {io : List Nat} {env : List (Nat × AV)} {sto : List (Nat × Ob)} {res : List RV} {r : AV} {e : Exit} {outs : List (Nat × Ob)} (rn : List (Nat × Nat)) (sn : List Nat) (hr : ∃ raw, (resL env sto res).map packR = some raw ∧ wkV (stoOf sto) sn (ren rn) raw r) (he : e = .ret ∨ e = .normal := by first | exact Or.inl rfl | exact Or.inr rfl)
  (hi : ∀ i ∈ r.ids, i ∈ keysOf outs := by simp [AV.ids, idsL, keysOf]) (h2 : stoS sto sn rn outs outs := by simp [stoS, wkO, ls_cons, ls_nil, stoOf, ren, keysOf, Ob.ids, wkV, wkL, AV.one, idsL, AV.ids, setL, pst] <;> assumption) (h3 : ((keysOf outs).map (ren rn)).Nodup := by simp [keysOf, ren])
  (h4 : ∀ i ∈ sn, 100 ≤ i ∧ isRow (stoOf sto i) = true ∧ ∀ j ∈ keysOf outs, ren rn j ≠ i := by simp [stoOf, keysOf, ren]) (h5 : ∀ i ∈ io, ren rn i = i := by simp [keysOf, ren]) (h6 : ∀ i ∈ keysOf outs, ren rn i ∈ io → i = ren rn i := by simp [keysOf, ren]) :
  SEnds io res r outs e ⟨envOf env, stoOf sto⟩ := wO rn sn hr he hi h2 h3 h4 h5 h6

theorem sR_NdParse {io : List Nat} {env : List (Nat × AV)} {sto : List (Nat × Ob)} {env' : List (Nat × AV)} {sto' : List (Nat × Ob)} (rn : List (Nat × Nat)) (sn : List Nat)
  (h1 : envS sto sn rn env sto' env' := by simp [envS, go_sem, wkV, wkL, AV.ids, idsL, keysOf, ren, stoOf, slTrees, AV.asOwn, rowPart, AV.isNil, shA, rowsT, cellsT, cellT, wkLL, setL, pst] <;> assumption)
  (h2 : stoS sto sn rn sto' sto' := by simp [stoS, go_sem, wkV, wkL, wkO, AV.ids, Ob.ids, idsL, keysOf, ren, AV.one, stoOf, slTrees, AV.asOwn, rowPart, AV.isNil, shA, rowsT, cellsT, cellT, wkLL, setL, pst] <;> assumption)
  (h3 : ((keysOf sto').map (ren rn)).Nodup := by simp [keysOf, ren]) (h4 : ∀ i ∈ sn, 100 ≤ i ∧ isRow (stoOf sto i) = true ∧ ∀ j ∈ keysOf sto', ren rn j ≠ i := by simp [stoOf, keysOf, ren])
  (h5 : ∀ i ∈ io, ren rn i = i := by simp [keysOf, ren]) (h6 : ∀ i ∈ keysOf sto', ren rn i ∈ io → i = ren rn i := by simp [keysOf, ren]) :
  Sub io ⟨envOf env, stoOf sto⟩ ⟨envOf env', stoOf sto'⟩ := subL rn sn h1 h2 h3 h4 h5 h6

theorem f_parser_more0 (s : ByteArray) (rest : List UInt8) (h : Suf s rest) : Meets Tryz.prog E0 n_needle_parser_more [.ptr 0 0] [(0, pst s rest)] (Bo (!rest.isEmpty)) [(0, pst s rest)] := by
 refine m_needle_parser_more (by simp) (shut_of (by simp [idsL, AV.ids, keysOf, setL, pst]) (by simp [Ob.live, Ob.ids, keysOf, idsL, AV.ids, setL, pst])) (shut_of (by simp [idsL, AV.ids, keysOf, setL, pst]) (by simp [Ob.live, Ob.ids, keysOf, idsL, AV.ids, setL, pst])) (by simp [keysOf]) (by simp [keysOf]) ?_
 simp only [go_sem, s_needle_parser_more]
 refine wO_NdParse [] [] ?_
 simp only [go_sem, r_needle_parser_more, exists_eq_left', Option.some.injEq]
 have := h.len
 cases rest with
 | nil => simp [wkV, wkL, slTrees, AV.asOwn, rowPart, stoOf, AV.isNil, shA, rowsT, cellsT, cellT]
 | cons c r => simp [wkV, wkL, slTrees, AV.asOwn, rowPart, stoOf, AV.isNil, shA, rowsT, cellsT, cellT]; simp at this; omega

theorem f_parser_more (id : Nat) (s : ByteArray) (rest : List UInt8) (h : Suf s rest) : Meets Tryz.prog E0 n_needle_parser_more [.ptr id 0] [(id, pst s rest)] (Bo (!rest.isEmpty)) [(id, pst s rest)] := by
 have := (f_parser_more0 s rest h).ren (fun _ => id) (by simp [keysOf])
 exact this

theorem suf_one {s : ByteArray} {c : UInt8} {r : List UInt8} (h : Suf s (c :: r)) : s[s.size - (r.length + 1)]? = some c ∧ s.size - (r.length + 1) + 1 = s.size - r.length ∧ s.size - (r.length + 1) < s.size := by
 have h1 := h.get 0
 have := h.len
 simp at h1 this
 exact ⟨h1, by omega, by omega⟩

theorem f_parser_skip0 (b : Nat) (s : ByteArray) (rest : List UInt8) (h : Suf s rest) (hs : s.size < 4611686018427387904) : Meets Tryz.prog E0 n_needle_parser_skip [.ptr 0 0, U8 b] [(0, pst s rest)] (Bo (skipM b rest).1) [(0, pst s (skipM b rest).2)] := by
 refine m_needle_parser_skip (by simp) (shut_of (by simp [idsL, AV.ids, keysOf, setL, pst]) (by simp [Ob.live, Ob.ids, keysOf, idsL, AV.ids, setL, pst])) (shut_of (by simp [idsL, AV.ids, keysOf, setL, pst]) (by simp [Ob.live, Ob.ids, keysOf, idsL, AV.ids, setL, pst])) (by simp [keysOf]) (by simp [keysOf]) ?_
 simp only [go_sem, s_needle_parser_skip]
 refine oB (f_parser_more 0 s rest h) ?_
 cases rest with
 | nil =>
  simp only [go_sem, List.isEmpty_nil, skipM]
  refine wO_NdParse [] [] ?_
  simp only [go_sem, r_needle_parser_skip, exists_eq_left', Option.some.injEq]
  simp [wkV, wkL, slTrees, AV.asOwn, rowPart, stoOf, AV.isNil, shA, rowsT, cellsT, cellT]
 | cons c r =>
  obtain ⟨hg, hl, hlt⟩ := suf_one h
  cases hc : decide (c.toNat = b)
  ·simp at hc
   rw [show skipM b (c :: r) = (false, c :: r) from by simp [skipM, hc]]
   simp only [go_sem, hg, show decide (c.toNat = b) = false from by simp [hc]]
   refine wO_NdParse [] [] ?_
   simp only [go_sem, r_needle_parser_skip, exists_eq_left', Option.some.injEq]
   simp [wkV, wkL, slTrees, AV.asOwn, rowPart, stoOf, AV.isNil, shA, rowsT, cellsT, cellT]
  ·simp at hc
   rw [show skipM b (c :: r) = (true, r) from by simp [skipM, hc]]
   have e1 : IntKind.i64.wrap (((s.size - (r.length + 1) : Nat) : Int) + 1) = ((s.size - r.length : Nat) : Int) := by rw [wrap_i64_of (by omega) (by omega)]; omega
   simp only [go_sem, hg, hc, decide_true, e1]
   refine wO_NdParse [] [] ?_
   simp only [go_sem, r_needle_parser_skip, exists_eq_left', Option.some.injEq]
   simp [wkV, wkL, slTrees, AV.asOwn, rowPart, stoOf, AV.isNil, shA, rowsT, cellsT, cellT]

theorem f_parser_skip (id b : Nat) (s : ByteArray) (rest : List UInt8) (h : Suf s rest) (hs : s.size < 4611686018427387904) : Meets Tryz.prog E0 n_needle_parser_skip [.ptr id 0, U8 b] [(id, pst s rest)] (Bo (skipM b rest).1) [(id, pst s (skipM b rest).2)] := by
 have := (f_parser_skip0 b s rest h hs).ren (fun _ => id) (by simp [keysOf])
 exact this

def nextM : List UInt8 → Nat × Bool × List UInt8
 | [] => (0, false, [])
 | c :: r => (c.toNat, true, r)

theorem f_parser_next0 (s : ByteArray) (rest : List UInt8) (h : Suf s rest) (hs : s.size < 4611686018427387904) : Meets Tryz.prog E0 n_needle_parser_next [.ptr 0 0] [(0, pst s rest)] (.tp [U8 (nextM rest).1, Bo (nextM rest).2.1]) [(0, pst s (nextM rest).2.2)] := by
 refine m_needle_parser_next (by simp) (shut_of (by simp [idsL, AV.ids, keysOf, setL, pst]) (by simp [Ob.live, Ob.ids, keysOf, idsL, AV.ids, setL, pst])) (shut_of (by simp [idsL, AV.ids, keysOf, setL, pst]) (by simp [Ob.live, Ob.ids, keysOf, idsL, AV.ids, setL, pst])) (by simp [keysOf]) (by simp [keysOf]) ?_
 simp only [go_sem, s_needle_parser_next]
 refine oB (f_parser_more 0 s rest h) ?_
 cases rest with
 | nil =>
  simp only [go_sem, List.isEmpty_nil, nextM]
  refine wO_NdParse [] [] ?_
  simp only [go_sem, r_needle_parser_next, exists_eq_left', Option.some.injEq]
  simp [wkV, wkL, slTrees, AV.asOwn, rowPart, stoOf, AV.isNil, shA, rowsT, cellsT, cellT]
 | cons c r =>
  obtain ⟨hg, hl, hlt⟩ := suf_one h
  have e1 : IntKind.i64.wrap (((s.size - (r.length + 1) : Nat) : Int) + 1) = ((s.size - r.length : Nat) : Int) := by rw [wrap_i64_of (by omega) (by omega)]; omega
  have e2 : IntKind.i64.wrap (((s.size - r.length : Nat) : Int) - 1) = ((s.size - (r.length + 1) : Nat) : Int) := by rw [wrap_i64_of (by omega) (by omega)]; omega
  simp only [go_sem, e1, e2, hg, nextM]
  refine wO_NdParse [] [] ?_
  simp only [go_sem, r_needle_parser_next, exists_eq_left', Option.some.injEq]
  simp [wkV, wkL, slTrees, AV.asOwn, rowPart, stoOf, AV.isNil, shA, rowsT, cellsT, cellT]

theorem f_parser_next (id : Nat) (s : ByteArray) (rest : List UInt8) (h : Suf s rest) (hs : s.size < 4611686018427387904) : Meets Tryz.prog E0 n_needle_parser_next [.ptr id 0] [(id, pst s rest)] (.tp [U8 (nextM rest).1, Bo (nextM rest).2.1]) [(id, pst s (nextM rest).2.2)] := by
 have := (f_parser_next0 s rest h hs).ren (fun _ => id) (by simp [keysOf])
 exact this

theorem f_parser_ranged0 (s : ByteArray) (rest : List UInt8) (h : Suf s rest) (hs : s.size < 4611686018427387904) : Meets Tryz.prog E0 n_needle_parser_ranged [.ptr 0 0] [(0, pst s rest)] (Bo (rangedB rest)) [(0, pst s rest)] := by
 refine m_needle_parser_ranged (by simp) (shut_of (by simp [idsL, AV.ids, keysOf, setL, pst]) (by simp [Ob.live, Ob.ids, keysOf, idsL, AV.ids, setL, pst])) (shut_of (by simp [idsL, AV.ids, keysOf, setL, pst]) (by simp [Ob.live, Ob.ids, keysOf, idsL, AV.ids, setL, pst])) (by simp [keysOf]) (by simp [keysOf]) ?_
 have hl := h.len
 rcases rest with _ | ⟨d, _ | ⟨x, r⟩⟩
 ·have d1 : decide (((s.size : Nat) : Int) + 1 < ((s.size : Nat) : Int)) = false := by simp; omega
  ((try simp only [go_sem, s_needle_parser_ranged, Nat.sub_zero, d1]); repeat (simp (disch := omega) only [wrap_i64_of, i64_quo, i64_rem, sdiv, smod]; (try simp only [go_sem, s_needle_parser_ranged, Nat.sub_zero, d1])))
  refine wO_NdParse [] [] ?_
  simp only [go_sem, r_needle_parser_ranged, exists_eq_left', Option.some.injEq]
  simp [wkV, wkL, slTrees, AV.asOwn, rowPart, stoOf, AV.isNil, shA, rowsT, cellsT, cellT, rangedB]
 ·have d1 : decide (((s.size - 1 : Nat) : Int) + 1 < ((s.size : Nat) : Int)) = false := by simp at hl; simp; omega
  ((try simp only [go_sem, s_needle_parser_ranged, d1]); repeat (simp (disch := omega) only [wrap_i64_of, i64_quo, i64_rem, sdiv, smod]; (try simp only [go_sem, s_needle_parser_ranged, d1])))
  refine wO_NdParse [] [] ?_
  simp only [go_sem, r_needle_parser_ranged, exists_eq_left', Option.some.injEq]
  simp [wkV, wkL, slTrees, AV.asOwn, rowPart, stoOf, AV.isNil, shA, rowsT, cellsT, cellT, rangedB]
 ·simp at hl
  obtain ⟨g1, g2, g3⟩ := suf_one h
  obtain ⟨k1, k2, k3⟩ := suf_one h.tail
  simp only [List.length_cons] at g1 g2 g3
  have e1 : IntKind.i64.wrap (((s.size - (r.length + 1 + 1) : Nat) : Int) + 1) = ((s.size - (r.length + 1) : Nat) : Int) := by rw [wrap_i64_of (by omega) (by omega)]; omega
  have d1 : decide (s.size - (r.length + 1) < s.size) = true := by simp; omega
  cases hd : decide (d.toNat = 45)
  ·simp only [go_sem, s_needle_parser_ranged, e1, d1, g1, hd]
   refine wO_NdParse [] [] ?_
   simp only [go_sem, r_needle_parser_ranged, exists_eq_left', Option.some.injEq]
   simp at hd
   simp [wkV, wkL, slTrees, AV.asOwn, rowPart, stoOf, AV.isNil, shA, rowsT, cellsT, cellT, rangedB, hd]
  ·simp only [go_sem, s_needle_parser_ranged, e1, d1, g1, hd, k1]
   refine wO_NdParse [] [] ?_
   simp only [go_sem, r_needle_parser_ranged, exists_eq_left', Option.some.injEq]
   simp at hd
   by_cases hx : x.toNat = 93 <;> simp [wkV, wkL, slTrees, AV.asOwn, rowPart, stoOf, AV.isNil, shA, rowsT, cellsT, cellT, rangedB, hd, hx]

theorem f_parser_ranged (id : Nat) (s : ByteArray) (rest : List UInt8) (h : Suf s rest) (hs : s.size < 4611686018427387904) : Meets Tryz.prog E0 n_needle_parser_ranged [.ptr id 0] [(id, pst s rest)] (Bo (rangedB rest)) [(id, pst s rest)] := by
 have := (f_parser_ranged0 s rest h hs).ren (fun _ => id) (by simp [keysOf])
 exact this

theorem f_set_add0 (n lo hi : Nat) (hn : n < 2 ^ 256) (hlo : lo < 256) (hhi : hi < 256) : Meets Tryz.prog E0 n_needle_set_add [.ptr 0 0, U8 lo, U8 hi] [(0, .box (setL n))] (.tp []) [(0, .box (setL (addN n lo (hi + 1 - lo))))] := by
 refine m_needle_set_add (by simp) (shut_of (by simp [idsL, AV.ids, keysOf, setL, pst]) (by simp [Ob.live, Ob.ids, keysOf, idsL, AV.ids, setL, pst])) (shut_of (by simp [idsL, AV.ids, keysOf, setL, pst]) (by simp [Ob.live, Ob.ids, keysOf, idsL, AV.ids, setL, pst])) (by simp [keysOf]) (by simp [keysOf]) ?_
 ((try simp only [go_sem, s_needle_set_add]); repeat (simp (disch := omega) only [wrap_i64_of, i64_quo, i64_rem, sdiv, smod]; (try simp only [go_sem, s_needle_set_add])))
 refine W_loop (fun k : Nat => hi + 1 - lo - k) (fun k => k ≤ hi + 1 - lo)
  (fun k => [(0, .ptr 0 0), (1, U8 lo), (2, U8 hi), (6, I ((lo + k : Nat) : Int))])
  (fun k => [(0, .box (setL (addN n lo k)))])
  0 (by omega) ?_ ?_
 ·rw [show addN n lo 0 = n from rfl]
  exact (sR_NdParse [] [])
 ·intro k hk
  ((try simp only [go_sem]); repeat (simp (disch := omega) only [wrap_i64_of, i64_quo, i64_rem, sdiv, smod]; (try simp only [go_sem])))
  refine W_split rfl (fun h1 => ?_) (fun h1 => ?_)
  ·simp at h1
   generalize hm : addN n lo k = m
   have hand : binInt .and .i64 ((lo + k : Nat) : Int) 63 = some (.int .i64 (((lo + k) % 64 : Nat) : Int)) := by
    have := i64_and_nat (a := lo + k) (b := 63) (by omega) (by decide)
    rw [show (lo + k) &&& 63 = (lo + k) % 64 from Nat.and_two_pow_sub_one_eq_mod (lo + k) 6] at this
    exact this
   have hshr : (lo + k) / 2 ^ (min 6 64) = (lo + k) / 64 := rfl
   have hmin : min ((lo + k) % 64) 64 = (lo + k) % 64 := Nat.min_eq_left (by omega)
   have h4 : (lo + k) / 64 = 0 ∨ (lo + k) / 64 = 1 ∨ (lo + k) / 64 = 2 ∨ (lo + k) / 64 = 3 := by omega
   have i4 : ∀ j : Nat, j < 4 → (j : Int) < ((4 : Nat) : Int) := by omega
   have o1 : (lo + k) / 64 ≠ 0 → (m ||| 2 ^ (lo + k)) % 18446744073709551616 = m % 18446744073709551616 := fun h => by rw [word0, word0, word_or_other _ _ _ h]
   have o2 : (lo + k) / 64 ≠ 1 → (m ||| 2 ^ (lo + k)) / 18446744073709551616 % 18446744073709551616 = m / 18446744073709551616 % 18446744073709551616 := fun h => by rw [word1, word1, word_or_other _ _ _ h]
   have o3 : (lo + k) / 64 ≠ 2 → (m ||| 2 ^ (lo + k)) / 340282366920938463463374607431768211456 % 18446744073709551616 = m / 340282366920938463463374607431768211456 % 18446744073709551616 := fun h => by rw [word2, word2, word_or_other _ _ _ h]
   have o4 : (lo + k) / 64 ≠ 3 → (m ||| 2 ^ (lo + k)) / (18446744073709551616 * 340282366920938463463374607431768211456) % 18446744073709551616 = m / (18446744073709551616 * 340282366920938463463374607431768211456) % 18446744073709551616 := fun h => by rw [word3, word3, word_or_other _ _ _ h]
   have p0 : 2 ^ ((lo + k) % 64) % 18446744073709551616 = 2 ^ ((lo + k) % 64) := Nat.mod_eq_of_lt (Nat.pow_lt_pow_right (n := 64) (by decide) (by omega))
   have p1 : (lo + k) / 64 = 0 → (m ||| 2 ^ (lo + k)) % 18446744073709551616 = m % 18446744073709551616 % 18446744073709551616 ||| 2 ^ ((lo + k) % 64) := fun h => by rw [Nat.mod_mod, word0, word0, word_or_same _ _ _ h]
   have p2 : (lo + k) / 64 = 1 → (m ||| 2 ^ (lo + k)) / 18446744073709551616 % 18446744073709551616 = m / 18446744073709551616 % 18446744073709551616 % 18446744073709551616 ||| 2 ^ ((lo + k) % 64) := fun h => by rw [Nat.mod_mod, word1, word1, word_or_same _ _ _ h]
   have p3 : (lo + k) / 64 = 2 → (m ||| 2 ^ (lo + k)) / 340282366920938463463374607431768211456 % 18446744073709551616 = m / 340282366920938463463374607431768211456 % 18446744073709551616 % 18446744073709551616 ||| 2 ^ ((lo + k) % 64) := fun h => by rw [Nat.mod_mod, word2, word2, word_or_same _ _ _ h]
   have p4 : (lo + k) / 64 = 3 → (m ||| 2 ^ (lo + k)) / (18446744073709551616 * 340282366920938463463374607431768211456) % 18446744073709551616 = m / (18446744073709551616 * 340282366920938463463374607431768211456) % 18446744073709551616 % 18446744073709551616 ||| 2 ^ ((lo + k) % 64) := fun h => by rw [Nat.mod_mod, word3, word3, word_or_same _ _ _ h]
   have ek : IntKind.i64.wrap (((lo + k : Nat) : Int) + 1) = ((lo + (k + 1) : Nat) : Int) := by rw [wrap_i64_of (by omega) (by omega)]; omega
   rcases h4 with h4 | h4 | h4 | h4
   ·have q1 := p1 h4
    have q2 := o2 (by omega)
    have q3 := o3 (by omega)
    have q4 := o4 (by omega)
    ((try simp only [go_sem, hand, hshr, hmin, h4, i4 0 (by decide), setL, ek, p0]); repeat (simp (disch := omega) only [wrap_i64_of, i64_quo, i64_rem, sdiv, smod]; (try simp only [go_sem, hand, hshr, hmin, h4, i4 0 (by decide), setL, ek, p0])))
    refine rd_of (k + 1) (by first | omega | (simp only; omega)) (by first | omega | (simp only; omega)) ?_
    rw [addM_snoc, hm]
    simp only [setL, q1, q2, q3, q4]
    exact (sR_NdParse [] [])
   ·have q1 := o1 (by omega)
    have q2 := p2 h4
    have q3 := o3 (by omega)
    have q4 := o4 (by omega)
    ((try simp only [go_sem, hand, hshr, hmin, h4, i4 1 (by decide), setL, ek, p0]); repeat (simp (disch := omega) only [wrap_i64_of, i64_quo, i64_rem, sdiv, smod]; (try simp only [go_sem, hand, hshr, hmin, h4, i4 1 (by decide), setL, ek, p0])))
    refine rd_of (k + 1) (by first | omega | (simp only; omega)) (by first | omega | (simp only; omega)) ?_
    rw [addM_snoc, hm]
    simp only [setL, q1, q2, q3, q4]
    exact (sR_NdParse [] [])
   ·have q1 := o1 (by omega)
    have q2 := o2 (by omega)
    have q3 := p3 h4
    have q4 := o4 (by omega)
    ((try simp only [go_sem, hand, hshr, hmin, h4, i4 2 (by decide), setL, ek, p0]); repeat (simp (disch := omega) only [wrap_i64_of, i64_quo, i64_rem, sdiv, smod]; (try simp only [go_sem, hand, hshr, hmin, h4, i4 2 (by decide), setL, ek, p0])))
    refine rd_of (k + 1) (by first | omega | (simp only; omega)) (by first | omega | (simp only; omega)) ?_
    rw [addM_snoc, hm]
    simp only [setL, q1, q2, q3, q4]
    exact (sR_NdParse [] [])
   ·have q1 := o1 (by omega)
    have q2 := o2 (by omega)
    have q3 := o3 (by omega)
    have q4 := p4 h4
    ((try simp only [go_sem, hand, hshr, hmin, h4, i4 3 (by decide), setL, ek, p0]); repeat (simp (disch := omega) only [wrap_i64_of, i64_quo, i64_rem, sdiv, smod]; (try simp only [go_sem, hand, hshr, hmin, h4, i4 3 (by decide), setL, ek, p0])))
    refine rd_of (k + 1) (by first | omega | (simp only; omega)) (by first | omega | (simp only; omega)) ?_
    rw [addM_snoc, hm]
    simp only [setL, q1, q2, q3, q4]
    exact (sR_NdParse [] [])
  ·simp at h1
   have e : k = hi + 1 - lo := by omega
   subst e
   simp only [go_sem]
   refine wO_NdParse [] [] ?_
   simp only [go_sem, r_needle_set_add, exists_eq_left', Option.some.injEq]
   simp [wkV, wkL, slTrees, AV.asOwn, rowPart, stoOf, AV.isNil, shA, rowsT, cellsT, cellT]

theorem f_set_add (id n lo hi : Nat) (hn : n < 2 ^ 256) (hlo : lo < 256) (hhi : hi < 256) : Meets Tryz.prog E0 n_needle_set_add [.ptr id 0, U8 lo, U8 hi] [(id, .box (setL n))] (.tp []) [(id, .box (setL (addN n lo (hi + 1 - lo))))] := by
 have := (f_set_add0 n lo hi hn hlo hhi).ren (fun _ => id) (by simp [keysOf])
 exact this

end Go.Proofs.YtgmpceijcdimkaaGreatDoor
namespace Go.Proofs.YtgmpceijcdimkaaGreatDoor
open Go Go.Sx

theorem cpl_words {n : Nat} (hn : n < 2 ^ 256) (k : Nat) (hk : k < 4) : word (cplM n) k = 18446744073709551616 - 1 - word n k := by
 apply Nat.eq_of_testBit_eq
 intro i
 have hw := word_lt n k
 have e : (18446744073709551616 : Nat) - 1 - word n k = 2 ^ 64 - (word n k + 1) := by omega
 by_cases hi : i < 64
 ·rw [word_bit _ _ _ hi, cpl_bit n _ hn (by omega), e, Nat.testBit_two_pow_sub_succ hw, word_bit _ _ _ hi]
  simp [hi]
 ·rw [Nat.testBit_lt_two_pow (Nat.lt_of_lt_of_le (word_lt _ k) (Nat.pow_le_pow_right (by decide) (by omega))), Nat.testBit_lt_two_pow (Nat.lt_of_lt_of_le (show (18446744073709551616 : Nat) - 1 - word n k < 2 ^ 64 by omega) (Nat.pow_le_pow_right (by decide) (by omega)))]

/-- Words, the first ones of which are turned over. -/
def cwL (n : Nat) : Nat → List AV
 | 0 => [U (word n 0 : Nat), U (word n 1 : Nat), U (word n 2 : Nat), U (word n 3 : Nat)]
 | 1 => [U (18446744073709551616 - 1 - word n 0 : Nat), U (word n 1 : Nat), U (word n 2 : Nat), U (word n 3 : Nat)]
 | 2 => [U (18446744073709551616 - 1 - word n 0 : Nat), U (18446744073709551616 - 1 - word n 1 : Nat), U (word n 2 : Nat), U (word n 3 : Nat)]
 | 3 => [U (18446744073709551616 - 1 - word n 0 : Nat), U (18446744073709551616 - 1 - word n 1 : Nat), U (18446744073709551616 - 1 - word n 2 : Nat), U (word n 3 : Nat)]
 | _ => [U (18446744073709551616 - 1 - word n 0 : Nat), U (18446744073709551616 - 1 - word n 1 : Nat), U (18446744073709551616 - 1 - word n 2 : Nat), U (18446744073709551616 - 1 - word n 3 : Nat)]

theorem wO_NdClass {io : List Nat} {env : List (Nat × AV)} {sto : List (Nat × Ob)} {res : List RV} {r : AV} {e : Exit} {outs : List (Nat × Ob)} (rn : List (Nat × Nat)) (sn : List Nat) (hr : ∃ raw, (resL env sto res).map packR = some raw ∧ wkV (stoOf sto) sn (ren rn) raw r) (he : e = .ret ∨ e = .normal := by first | exact Or.inl rfl | exact Or.inr rfl)
  (hi : ∀ i ∈ r.ids, i ∈ keysOf outs := by simp [AV.ids, idsL, keysOf]) (h2 : stoS sto sn rn outs outs := by simp [stoS, wkO, ls_cons, ls_nil, stoOf, ren, keysOf, Ob.ids, wkV, wkL, AV.one, idsL, AV.ids, setL, pst, cwL] <;> assumption) (h3 : ((keysOf outs).map (ren rn)).Nodup := by simp [keysOf, ren])
  (h4 : ∀ i ∈ sn, 100 ≤ i ∧ isRow (stoOf sto i) = true ∧ ∀ j ∈ keysOf outs, ren rn j ≠ i := by simp [stoOf, keysOf, ren]) (h5 : ∀ i ∈ io, ren rn i = i := by simp [keysOf, ren]) (h6 : ∀ i ∈ keysOf outs, ren rn i ∈ io → i = ren rn i := by simp [keysOf, ren]) :
  SEnds io res r outs e ⟨envOf env, stoOf sto⟩ := wO rn sn hr he hi h2 h3 h4 h5 h6

theorem sR_NdClass {io : List Nat} {env : List (Nat × AV)} {sto : List (Nat × Ob)} {env' : List (Nat × AV)} {sto' : List (Nat × Ob)} (rn : List (Nat × Nat)) (sn : List Nat)
  (h1 : envS sto sn rn env sto' env' := by simp [envS, go_sem, wkV, wkL, AV.ids, idsL, keysOf, ren, stoOf, slTrees, AV.asOwn, rowPart, AV.isNil, shA, rowsT, cellsT, cellT, wkLL, setL, pst, cwL] <;> assumption)
  (h2 : stoS sto sn rn sto' sto' := by simp [stoS, go_sem, wkV, wkL, wkO, AV.ids, Ob.ids, idsL, keysOf, ren, AV.one, stoOf, slTrees, AV.asOwn, rowPart, AV.isNil, shA, rowsT, cellsT, cellT, wkLL, setL, pst, cwL] <;> assumption)
  (h3 : ((keysOf sto').map (ren rn)).Nodup := by simp [keysOf, ren]) (h4 : ∀ i ∈ sn, 100 ≤ i ∧ isRow (stoOf sto i) = true ∧ ∀ j ∈ keysOf sto', ren rn j ≠ i := by simp [stoOf, keysOf, ren])
  (h5 : ∀ i ∈ io, ren rn i = i := by simp [keysOf, ren]) (h6 : ∀ i ∈ keysOf sto', ren rn i ∈ io → i = ren rn i := by simp [keysOf, ren]) :
  Sub io ⟨envOf env, stoOf sto⟩ ⟨envOf env', stoOf sto'⟩ := subL rn sn h1 h2 h3 h4 h5 h6

theorem setL_word (n : Nat) : setL n = [U (word n 0 : Nat), U (word n 1 : Nat), U (word n 2 : Nat), U (word n 3 : Nat)] := by
 show [U ((n % 18446744073709551616 : Nat) : Int), U ((n / 18446744073709551616 % 18446744073709551616 : Nat) : Int), U ((n / 340282366920938463463374607431768211456 % 18446744073709551616 : Nat) : Int), U ((n / (18446744073709551616 * 340282366920938463463374607431768211456) % 18446744073709551616 : Nat) : Int)] = _
 rw [word0 n, word1 n, word2 n, word3 n]

theorem cwL_zero (n : Nat) : cwL n 0 = setL n := (setL_word n).symm

theorem cwL_four {n : Nat} (hn : n < 2 ^ 256) : cwL n 4 = setL (cplM n) := by
 rw [setL_word]
 simp only [cwL]
 rw [cpl_words hn 0 (by decide), cpl_words hn 1 (by decide), cpl_words hn 2 (by decide), cpl_words hn 3 (by decide)]

theorem u64_not {a : Nat} (h : a < 18446744073709551616) : IntKind.u64.wrap ((BitVec.ofInt 64 (if IntKind.u64.signed = true then -1 else IntKind.u64.max) ^^^ BitVec.ofInt 64 ((a : Nat) : Int)).toNat) = ((18446744073709551616 - 1 - a : Nat) : Int) := by
 show IntKind.u64.wrap ((BitVec.ofInt 64 (18446744073709551616 - 1 : Int) ^^^ BitVec.ofInt 64 (a : Int)).toNat) = _
 rw [bv_nat, show BitVec.ofInt 64 (18446744073709551616 - 1 : Int) = BitVec.allOnes 64 from by decide, BitVec.allOnes_xor, u64_wrap_nat, BitVec.toNat_not, BitVec.toNat_ofNat]
 congr 1
 omega

theorem f_parser_class0 (s : ByteArray) (rest : List UInt8) (h : Suf s rest) (hs : s.size < 4611686018427387904) : Meets Tryz.prog E0 n_needle_parser_class [.ptr 0 0] [(0, pst s rest)] (.tp [setV (classM rest).1, Bo (classM rest).2.1]) [(0, pst s (classM rest).2.2)] := by
 have hsuf : Suf s (skipM 94 rest).2 := (skip_suf 94 rest).trans h
 unfold classM
 generalize hsk : skipM 94 rest = sk at *
 generalize hx : classX sk.2 false 0 = x
 refine m_needle_parser_class (by simp) (shut_of (by simp [idsL, AV.ids, keysOf, setL, pst, cwL]) (by simp [Ob.live, Ob.ids, keysOf, idsL, AV.ids, setL, pst, cwL])) (shut_of (by simp [idsL, AV.ids, keysOf, setL, pst, cwL]) (by simp [Ob.live, Ob.ids, keysOf, idsL, AV.ids, setL, pst, cwL])) (by simp [keysOf]) (by simp [keysOf]) ?_
 simp only [go_sem, s_needle_parser_class]
 refine oB (f_parser_skip 0 94 s rest h hs) ?_
 rw [hsk]
 simp only [go_sem]
 refine W_loop (fun i : List UInt8 × Nat × Nat => i.1.length) (fun i => Suf s i.1 ∧ i.2.1 + i.1.length ≤ s.size ∧ i.2.2 < 2 ^ 256 ∧ classX i.1 (decide (0 < i.2.1)) i.2.2 = x)
  (fun i => [(0, .ptr 0 0), (2, .ptr 100 0), (4, .ptr 102 0), (5, Bo sk.1), (6, I i.2.1)])
  (fun i => [(0, pst s i.1), (100, .box (setL 0)), (102, .box (setL i.2.2))])
  (sk.2, 0, 0) ⟨hsuf, by have := hsuf.len; simpa using this, Nat.two_pow_pos _, by simpa using hx⟩ ?_ ?_
 ·exact (sR_NdClass [] [])
 ·rintro ⟨l, k, n⟩ ⟨hl, hk, hn, hr⟩
  simp only at hl hk hn hr
  simp only [go_sem]
  refine oB (f_parser_next 0 s l hl hs) ?_
  cases l with
  | nil =>
   simp only [classX] at hr
   subst hr
   simp only [go_sem, nextM]
   refine wO_NdClass [] [] ?_
   simp only [go_sem, r_needle_parser_class, exists_eq_left', Option.some.injEq]
   simp [wkV, wkL, slTrees, AV.asOwn, rowPart, stoOf, AV.isNil, shA, rowsT, cellsT, cellT]
  | cons c r =>
   have hc := u8_lt c
   have hlr : Suf s r := hl.tail
   have hlen := hl.len
   simp at hlen hk
   cases h93 : decide (c.toNat = 93)
   ·simp at h93
    simp only [go_sem, nextM, show decide (c.toNat = 93) = false from by simp [h93]]
    refine oB (f_parser_ranged 0 s r hlr hs) ?_
    have ek : IntKind.i64.wrap ((k : Int) + 1) = ((k + 1 : Nat) : Int) := by rw [wrap_i64_of (by omega) (by omega)]; omega
    cases hrg : rangedB r
    ·have d1 : decide (c.toNat < c.toNat) = false := by simp
     rw [classX_one c r _ n h93 hrg, show n ||| 2 ^ c.toNat = addN n c.toNat 1 from rfl] at hr
     simp only [go_sem, d1]
     refine oB (f_set_add 102 n c.toNat c.toNat hn hc hc) ?_
     simp only [go_sem, ek]
     refine rd_of (r, k + 1, addN n c.toNat (c.toNat + 1 - c.toNat)) (by simp) ⟨hlr, by simp only; omega, addM_lt _ _ _ hn (by omega), by rw [Nat.add_sub_cancel_left]; simpa using hr⟩ ?_
     exact (sR_NdClass [] [])
    ·obtain ⟨d, x2, r', rfl⟩ := ranged_shape hrg
     rw [classX_range c d x2 r' _ n h93 hrg] at hr
     simp at hlen hk
     obtain ⟨g1, g2, g3⟩ := suf_one hlr
     simp only [List.length_cons] at g1 g2 g3
     have e1 : IntKind.i64.wrap (((s.size - (r'.length + 1 + 1) : Nat) : Int) + 1) = ((s.size - (r'.length + 1) : Nat) : Int) := by rw [wrap_i64_of (by omega) (by omega)]; omega
     simp only [go_sem, e1]
     refine oB (f_parser_next 0 s (x2 :: r') hlr.tail hs) ?_
     have hx2 := u8_lt x2
     cases hlt : decide (x2.toNat < c.toNat)
     ·rw [if_neg (by simpa using hlt)] at hr
      simp only [go_sem, nextM, hlt]
      refine oB (f_set_add 102 n c.toNat x2.toNat hn hc hx2) ?_
      simp only [go_sem, ek]
      refine rd_of (r', k + 1, addN n c.toNat (x2.toNat + 1 - c.toNat)) (by simp; omega) ⟨hlr.tail.tail, by simp only; omega, addM_lt _ _ _ hn (by omega), by simpa using hr⟩ ?_
      exact (sR_NdClass [] [])
     ·rw [if_pos (by simpa using hlt)] at hr
      subst hr
      simp only [go_sem, nextM, hlt]
      refine wO_NdClass [] [] ?_
      simp only [go_sem, r_needle_parser_class, exists_eq_left', Option.some.injEq]
      simp [wkV, wkL, slTrees, AV.asOwn, rowPart, stoOf, AV.isNil, shA, rowsT, cellsT, cellT]
   ·simp at h93
    rw [classX_end c r _ n h93] at hr
    subst hr
    cases hk0 : decide (k = 0)
    ·simp at hk0
     simp only [go_sem, nextM, h93, show decide ((k : Int) = 0) = false from by simp [hk0], decide_true]
     have hkp : 0 < k := by omega
     cases hs1 : sk.1
     ·simp only [go_sem, hs1]
      refine wO_NdClass [] [] ?_
      simp only [go_sem, r_needle_parser_class, exists_eq_left', Option.some.injEq]
      simp [wkV, wkL, slTrees, AV.asOwn, rowPart, stoOf, AV.isNil, shA, rowsT, cellsT, cellT, hkp]
     ·simp only [go_sem, hs1]
      refine W_loop (fun j : Nat => 4 - j) (fun j => j ≤ 4)
       (fun j => [(0, .ptr 0 0), (2, .ptr 100 0), (4, .ptr 102 0), (36, I j)])
       (fun j => [(0, pst s r), (100, .box (setL 0)), (102, .box (cwL n j))]) 0 (by omega) ?_ ?_
      ·rw [cwL_zero]
       exact (sR_NdClass [] [])
      ·intro j hj
       have j4 : j = 0 ∨ j = 1 ∨ j = 2 ∨ j = 3 ∨ j = 4 := by omega
       rcases j4 with rfl | rfl | rfl | rfl | rfl
       ·have hw := u64_not (word_lt n 0)
        ((try simp only [go_sem, cwL, show decide (((0 : Nat) : Int) < 4) = true from rfl, show (((0 : Nat) : Int) < ((4 : Nat) : Int)) from by decide, hw]); repeat (simp (disch := omega) only [wrap_i64_of, i64_quo, i64_rem, sdiv, smod]; (try simp only [go_sem, cwL, show decide (((0 : Nat) : Int) < 4) = true from rfl, show (((0 : Nat) : Int) < ((4 : Nat) : Int)) from by decide, hw])))
        refine rd_of 1 (by first | omega | (simp only; omega)) (by first | omega | (simp only; omega)) ?_
        exact (sR_NdClass [] [])
       ·have hw := u64_not (word_lt n 1)
        ((try simp only [go_sem, cwL, show decide (((1 : Nat) : Int) < 4) = true from rfl, show (((1 : Nat) : Int) < ((4 : Nat) : Int)) from by decide, hw]); repeat (simp (disch := omega) only [wrap_i64_of, i64_quo, i64_rem, sdiv, smod]; (try simp only [go_sem, cwL, show decide (((1 : Nat) : Int) < 4) = true from rfl, show (((1 : Nat) : Int) < ((4 : Nat) : Int)) from by decide, hw])))
        refine rd_of 2 (by first | omega | (simp only; omega)) (by first | omega | (simp only; omega)) ?_
        exact (sR_NdClass [] [])
       ·have hw := u64_not (word_lt n 2)
        ((try simp only [go_sem, cwL, show decide (((2 : Nat) : Int) < 4) = true from rfl, show (((2 : Nat) : Int) < ((4 : Nat) : Int)) from by decide, hw]); repeat (simp (disch := omega) only [wrap_i64_of, i64_quo, i64_rem, sdiv, smod]; (try simp only [go_sem, cwL, show decide (((2 : Nat) : Int) < 4) = true from rfl, show (((2 : Nat) : Int) < ((4 : Nat) : Int)) from by decide, hw])))
        refine rd_of 3 (by first | omega | (simp only; omega)) (by first | omega | (simp only; omega)) ?_
        exact (sR_NdClass [] [])
       ·have hw := u64_not (word_lt n 3)
        ((try simp only [go_sem, cwL, show decide (((3 : Nat) : Int) < 4) = true from rfl, show (((3 : Nat) : Int) < ((4 : Nat) : Int)) from by decide, hw]); repeat (simp (disch := omega) only [wrap_i64_of, i64_quo, i64_rem, sdiv, smod]; (try simp only [go_sem, cwL, show decide (((3 : Nat) : Int) < 4) = true from rfl, show (((3 : Nat) : Int) < ((4 : Nat) : Int)) from by decide, hw])))
        refine rd_of 4 (by first | omega | (simp only; omega)) (by first | omega | (simp only; omega)) ?_
        exact (sR_NdClass [] [])
       ·simp only [go_sem, show decide (((4 : Nat) : Int) < 4) = false from rfl]
        rw [cwL_four hn]
        simp only [go_sem]
        refine wO_NdClass [] [] ?_
        simp only [go_sem, r_needle_parser_class, exists_eq_left', Option.some.injEq]
        simp [wkV, wkL, slTrees, AV.asOwn, rowPart, stoOf, AV.isNil, shA, rowsT, cellsT, cellT, hkp]
    ·simp at hk0
     subst hk0
     simp only [go_sem, nextM, h93, decide_true, show decide (((0 : Nat) : Int) = 0) = true from rfl]
     refine wO_NdClass [] [] ?_
     simp only [go_sem, r_needle_parser_class, exists_eq_left', Option.some.injEq]
     simp [wkV, wkL, slTrees, AV.asOwn, rowPart, stoOf, AV.isNil, shA, rowsT, cellsT, cellT]

end Go.Proofs.YtgmpceijcdimkaaGreatDoor
