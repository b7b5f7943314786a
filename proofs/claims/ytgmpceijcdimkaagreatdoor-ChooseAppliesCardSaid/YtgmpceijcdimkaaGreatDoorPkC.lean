/- Texts of mine, many in one. No statement of the seat is proved here. -/
import Derived.Test.YtgmpceijcdimkaaGreatDoorPkB
import Derived.Test.YtgmpceijcdimkaaGreatDoorSxH
set_option linter.unusedSimpArgs false
set_option linter.unusedVariables false
namespace Go.Proofs.YtgmpceijcdimkaaGreatDoor
open Go Go.Sx

/-- A series with its measure. -/
def B6t (call : List UInt8) (s : F4) : F4 × Option Int := (s, T6 (A2k call) s.2.2.2)
def E2v (down : Bool) (x y : F4 × Option Int) : Int := B9l x.2 y.2 down
def C08 (down : Bool) (x y : F4 × Option Int) : Bool := decide (B9l x.2 y.2 down < 0)
def A08 (call : List UInt8) (l : List F4) (down : Bool) : List F4 := (F7 (C08 down) (l.map (B6t call))).map (·.1)

theorem D70 (down : Bool) : A7 (E2v down) = C08 down := rfl

theorem D6l (down : Bool) : Below3 (C08 down) where
 asym := fun a b h => by
  unfold C08 at *
  have h := of_decide_eq_true h
  refine decide_eq_false ?_
  generalize a.2 = x at *
  generalize b.2 = y at *
  revert h
  unfold B9l
  cases x <;> cases y <;> simp only <;> (try (intro h; omega))
  cases down
  ·simp only [Bool.false_eq_true, if_false]
   split <;> (try split) <;> intro h <;> (try split) <;> (try split) <;> omega
  ·simp only [if_true]
   split <;> (try split) <;> intro h <;> (try split) <;> (try split) <;> omega
 tr := fun a b c h1 h2 => by
  unfold C08 at *
  have h1 := of_decide_eq_false h1
  have h2 := of_decide_eq_false h2
  refine decide_eq_false ?_
  generalize a.2 = x at *
  generalize b.2 = y at *
  generalize c.2 = z at *
  revert h1 h2
  unfold B9l
  cases x <;> cases y <;> cases z <;> simp only <;> (try (intro h1 h2; omega))
  cases down
  ·simp only [Bool.false_eq_true, if_false]
   intro h1 h2
   split at h1 <;> split at h2 <;> (try split at h1) <;> (try split at h2) <;> split <;> (try split) <;> omega
  ·simp only [if_true]
   intro h1 h2
   split at h1 <;> split at h2 <;> (try split at h1) <;> (try split at h2) <;> split <;> (try split) <;> omega

def B0o : List T := [.v (.string (bs [])), .v (.int .i64 0), .v (.int .i64 0), .v (.slice none 0 0)]

theorem D4t {w : Int} {l : List Num} (h : ∀ n ∈ l, inN n) : Rt (T6 w l) := by
 have hk := D7u h
 unfold T6 B95
 generalize kvM l = k at *
 split
 ·exact B60
 ·split
  ·unfold D77
   split
   ·unfold C1q
    split
    ·exact B60
    ·exact fun z hz => D62 hz
   ·exact B60
  ·split
   ·exact C4f (fun a b _ _ => C5f a b) k hk
   ·split
    ·exact C4f (fun a b ha hb => C9d ha hb) k hk
    ·split
     ·exact C4f (fun a b ha hb => C9e ha hb) k hk
     ·split
      ·intro z hz
       exact hk z (List.mem_of_getLast? hz)
      ·exact B60

set_option maxHeartbeats 2000000 in
theorem B43 (call : List UInt8) (l : List F4) (down : Bool) (hcl : call.length ≤ 1000000000) (hl : l.length ≤ 1000000) (hv : ∀ s ∈ l, s.2.2.2.length ≤ 100000 ∧ inS s) : Meets Tryz.prog E0 A7i [Q5 (D6 call), A0e l, Bo down] [] (A0e (A08 call l down)) [] := by
 refine X6 C39 ?_
 have hlen : (l.map U4).length = l.length := by simp
 simp only [go_sem, B3t, hlen]
 refine C8 (fun i : Nat => l.length - i) (fun i => i ≤ l.length)
  (fun i => [(0, Q5 (D6 call)), (5, .ptr 100 0), (7, .own 999 6 0 (l.take i).length (!(l.take i).isEmpty)), (13, A0e l), (14, I l.length), (15, I i)])
  (fun i => [(100, .box [Bo down]), (999, .row 6 (!(l.take i).isEmpty) (((l.take i).map (B6t call)).map A8))]) 0 (Nat.zero_le _) ?_ ?_
 ·simp only [List.take_zero, List.map_nil, List.length_nil, List.isEmpty_nil, Bool.not_true]
  exact (sR [(999, 888)] [])
 intro i hi
 by_cases hil : i < l.length
 ·have d0 : decide (i < l.length) = true := decide_eq_true hil
  obtain ⟨s, hs⟩ := F0 hil
  have hsv := hv s (List.mem_of_getElem? hs)
  have hM := A5s call hcl s hsv.1 hsv.2
  have hg : (l.map U4)[i]? = some [.v (.string (D6 s.1)), .v (.int .i64 s.2.1), .v (.int .i64 s.2.2.1), .sl 2 (s.2.2.2.map D7)] := by rw [List.getElem?_map, hs]; rfl
  have ei : IntKind.i64.wrap ((i : Int) + 1) = ((i + 1 : Nat) : Int) := by rw [A5 (by omega) (by omega)]; omega
  have htk : (l.take (i + 1)) = l.take i ++ [s] := by rw [List.take_add_one, hs]; rfl
  have hil2 : (l.take i).length = i := by rw [List.length_take]; omega
  have b4 : (i + 1) * 72 ≤ 2 ^ 47 := by omega
  have b5 : i + 1 < 2 ^ 47 := by omega
  have hml : (((l.take i).map (B6t call)).map A8).length = i := by rw [List.length_map, List.length_map]; exact hil2
  have em : ((l.take i).map (B6t call)).map A8 ++ [[.v (.string (D6 s.1)), .v (.int .i64 s.2.1), .v (.int .i64 s.2.2.1), .sl 2 (s.2.2.2.map D7), .v (.bool (T6 (A2k call) s.2.2.2).isNone), .v (.int .i64 ((T6 (A2k call) s.2.2.2).getD 0))]] = ((l.take i ++ [s]).map (B6t call)).map A8 := by simp [B6t, A8]
  simp only [go_sem, d0, hg]
  refine A6 hM ?_
  simp only [go_sem, hil2, b4, b5, hml, em, ei]
  ((try (with_reducible refine rF ?_)); (try simp only [go_sem, hil2, b4, b5, hml, em, ei]))
  refine C3 (i + 1) (by first | omega | (simp only; omega)) hil ?_
  simp only [htk, List.length_append, List.length_cons, List.length_nil, Nat.zero_add, hil2, show (l.take i ++ [s]).isEmpty = false from by simp, Bool.not_false]
  exact (sR [(999, 118)] [])
 ·obtain rfl : i = l.length := by omega
  have d0 : decide (l.length < l.length) = false := decide_eq_false (by omega)
  rw [List.take_length]
  unfold A08
  cases l with
  | nil =>
   have h := (A6p A2g down).ren (fun _ => 100) (by simp [A4])
   simp only [A1y, A0z, A6i, A6v] at h
   simp only [List.map_nil, B2l]
   simp only [go_sem, d0]
   refine C7r [] false h (.one (Wk.gone (by simp [B1, AV.asOwn, B3, A9]) (by simp [A9]; rfl)) (.one (Wk.refl _) .nil)) (by simp [A4, A9]) (by simp [A4]) (by simp) (by simp) (by simp [A4]) ?_
   have b1 : ((0 : Nat) : Int) < 2 ^ 47 := by decide
   have b2 : ((56 : Nat) : Int) * ((0 : Nat) : Int) ≤ 2 ^ 48 := by decide
   have d2 : decide (((0 : Nat) : Int) < ((0 : Nat) : Int)) = false := rfl
   have d3 : decide (0 < 0) = false := rfl
   have d4 : decide ((0 : Int) < ((0 : Nat) : Int)) = false := rfl
   have d5 : decide ((0 : Int) < 0) = false := rfl
   simp only [go_sem, A2f, b1, b2]
   refine C8 (fun _ : Unit => 0) (fun _ => True) (fun _ => [(10, .own 127 4 0 0 true), (35, I (0 : Nat)), (36, I 0)]) (fun _ => [(127, .row 4 true [])]) () trivial (sR [] []) ?_
   intro _ _
   simp only [go_sem, d2, d3, d4, d5]
   refine wS [127] ?_
   simp only [go_sem, A7k, exists_eq_left', Option.some.injEq]
   simp [G1, G2, B1, AV.asOwn, B3, A9, AV.isNil, J8, B6, B4, B8]
  | cons x l =>
   have hrt : ∀ y ∈ (x :: l).map (B6t call), Rt y.2 := fun y hy => by
    obtain ⟨z, hz, rfl⟩ := List.mem_map.1 hy
    exact D4t (hv z hz).2
   have h := (A7c A2g (l.length + 1) true down (E2v down) (fun y => Rt y.2) (fun x y hx hy => B8r x y down hx hy) (by rw [D70]; exact D6l down) (by simp at hl; omega) ((x :: l).map (B6t call)) (by simp) hrt).ren (fun i => if i = 0 then 999 else 100) (by simp [A4])
   simp only [A1y, A0z, A6i, A6v, ↓reduceIte] at h
   rw [D70] at h
   have hll := O6 (C08 down) ((x :: l).map (B6t call))
   rw [List.length_map] at hll
   generalize F7 (C08 down) ((x :: l).map (B6t call)) = R at *
   have d1 : decide (l.length + 1 < l.length + 1) = false := decide_eq_false (by omega)
   simp only [List.map_cons] at h
   simp only [go_sem, d1]
   refine oB (h) ?_
   have hb1 : ((l.length + 1 : Nat) : Int) < 2 ^ 47 := by simp at hl; omega
   have hb2 : ((56 : Nat) : Int) * ((l.length + 1 : Nat) : Int) ≤ 2 ^ 48 := by simp at hl; omega
   simp only [go_sem, hb1, hb2]
   have hRl : R.length = l.length + 1 := by rw [hll]; rfl
   refine C8 (fun j : Nat => R.length - j) (fun j => j ≤ R.length)
    (fun j => [(10, .own 127 4 0 (l.length + 1) true), (34, .own 999 6 0 (l.length + 1) true), (35, I (l.length + 1 : Nat)), (36, I j)])
    (fun j => [(127, .row 4 true (((R.take j).map (·.1)).map U4 ++ List.replicate (R.length - j) B0o)), (999, .row 6 true (R.map A8))]) 0 (Nat.zero_le _) ?_ ?_
   ·simp only [List.take_zero, List.map_nil, List.nil_append, Nat.sub_zero, hRl, B0o]
    exact (sR [] [])
   intro j hj
   by_cases hjl : j < R.length
   ·have d2 : decide (j < l.length + 1) = true := decide_eq_true (by omega)
    obtain ⟨y, hy⟩ := F0 hjl
    have hgy : (R.map A8)[j]? = some [.v (.string (D6 y.1.1)), .v (.int .i64 y.1.2.1), .v (.int .i64 y.1.2.2.1), .sl 2 (y.1.2.2.2.map D7), .v (.bool y.2.isNone), .v (.int .i64 (y.2.getD 0))] := by rw [List.getElem?_map, hy]; rfl
    have ej : IntKind.i64.wrap ((j : Int) + 1) = ((j + 1 : Nat) : Int) := by rw [A5 (by omega) (by simp at hl; omega)]; omega
    have ib : (j : Int) < ((l.length + 1 : Nat) : Int) := by omega
    have tk : R.take (j + 1) = R.take j ++ [y] := by rw [List.take_add_one, hy]; rfl
    have er : R.length - j = (R.length - (j + 1)) + 1 := by omega
    have tl : (((R.take j).map (·.1)).map U4).length = j := by rw [List.length_map, List.length_map, List.length_take]; omega
    have hq : (((R.take j).map (·.1)).map U4 ++ List.replicate (R.length - j) B0o)[j]? = some B0o := by
     rw [er, List.replicate_succ, List.getElem?_append_right (by omega), tl, Nat.sub_self]; rfl
    have hset : (((R.take j).map (·.1)).map U4 ++ List.replicate (R.length - j) B0o).set j [.v (.string (D6 y.1.1)), .v (.int .i64 y.1.2.1), .v (.int .i64 y.1.2.2.1), .sl 2 (y.1.2.2.2.map D7)] = ((R.take (j + 1)).map (·.1)).map U4 ++ List.replicate (R.length - (j + 1)) B0o := by
     rw [er, List.replicate_succ, List.set_append_right _ _ (by omega), tl, Nat.sub_self, List.set_cons_zero, tk]
     simp [U4]
    generalize hA : ((R.take j).map (·.1)).map U4 ++ List.replicate (R.length - j) B0o = A at *
    unfold B0o at hq
    simp only [go_sem, d2, hgy, ib, hq, hset, ej]
    exact C3 (j + 1) (by first | omega | (simp only; omega)) hjl (sR [] [])
   ·obtain rfl : j = R.length := by omega
    have d2 : decide (R.length < l.length + 1) = false := decide_eq_false (by omega)
    rw [Nat.sub_self, List.take_length, List.replicate_zero, List.append_nil]
    simp only [go_sem, d2]
    refine wS [127] ?_
    simp only [go_sem, A7k, exists_eq_left', Option.some.injEq]
    simp [G1, G2, B1, AV.asOwn, B3, A9, AV.isNil, J8, B6, B4, B8, hRl, List.take_of_length_le]

/-- By names, or by measures. -/
def A1h (call : List UInt8) (x y : F4) : Bool := if (call == X7) = true then A8x x y else C08 (decide (A2o call = 1)) (B6t call x) (B6t call y)

theorem D74 {α β : Type} (f : α → β) (lt : β → β → Bool) : ∀ l : List α, F7 lt (l.map f) = (F7 (fun x y => lt (f x) (f y)) l).map f := by
 have hi : ∀ (x : α) (r : List α), A3l lt (f x) (r.map f) = (A3l (fun x y => lt (f x) (f y)) x r).map f := by
  intro x r
  induction r with
  | nil => rfl
  | cons y r ih =>
   simp only [List.map_cons, A3l]
   split
   ·rw [List.map_cons, ih]
   ·rfl
 intro l
 induction l using A3y with
 | h0 => rfl
 | h1 l x ih =>
  rw [List.map_append, List.map_cons, List.map_nil, A20, A20, ih]
  unfold A9o
  rw [← List.map_reverse, hi, List.map_reverse]

theorem C2w (call : List UInt8) (l : List F4) (down : Bool) : A08 call l down = F7 (fun x y => C08 down (B6t call x) (B6t call y)) l := by
 unfold A08
 rw [D74, List.map_map]
 have : ((fun x : F4 × Option Int => x.1) ∘ B6t call) = id := rfl
 rw [this, List.map_id]

theorem D9h (lt : F4 → F4 → Bool) (x : F4) : ∀ (s : List F4) (k : Nat), k ≤ s.length → (∀ j y, k ≤ j → s[j]? = some y → lt x y = true) → (∀ y, k ≠ 0 → s[k - 1]? = some y → lt x y = false) → A9o lt x s = s.take k ++ x :: s.drop k := by
 intro s
 induction s using A3y with
 | h0 => intro k hk _ _; simp at hk; subst hk; rfl
 | h1 s z ih =>
  intro k hk h1 h2
  rw [C1b]
  by_cases hz : lt x z = true
  ·rw [if_pos hz]
   have hk2 : k ≤ s.length := by
    rcases Nat.lt_or_ge s.length k with h | h
    ·exfalso
     have he : k = s.length + 1 := by simp at hk; omega
     have := h2 z (by omega) (by rw [he]; simp)
     rw [hz] at this; cases this
    ·exact h
   rw [ih k hk2 (fun j y hj hy => h1 j y hj (by rw [List.getElem?_append_left (List.getElem?_eq_some_iff.1 hy).1]; exact hy)) (fun y h0 hy => h2 y h0 (by rw [List.getElem?_append_left (List.getElem?_eq_some_iff.1 hy).1]; exact hy))]
   rw [List.take_append_of_le_length hk2, List.drop_append_of_le_length hk2]
   simp
  ·have hz' : lt x z = false := by simpa using hz
   rw [if_neg hz]
   have he : k = s.length + 1 := by
    rcases Nat.lt_or_ge s.length k with h | h
    ·simp at hk; omega
    ·exfalso
     have := h1 s.length z h (by simp)
     rw [hz'] at this; cases this
   subst he
   rw [List.take_of_length_le (by simp), List.drop_of_length_le (by simp)]
   simp

set_option maxHeartbeats 2000000 in
theorem C5d (call : List UInt8) (l : List F4) (hl : l.length ≤ 1000000) (hv : ∀ s ∈ l, s.2.2.2.length ≤ 100000 ∧ inS s) : Meets Tryz.prog E0 A8j [Q5 (D6 call), A0e l] [] (A0e (F7 (A1h call) l)) [] := by
 refine X6 C55 ?_
 have hlen : (l.map U4).length = l.length := by simp
 have qn : S2 .eql (D6 call) (bs [115, 111, 114, 116, 66, 121, 78, 97, 109, 101]) = some (.bool (call == X7)) := eqT call X7
 have hK := B8o call
 simp only [go_sem, B5i]
 refine C8 (fun i : Nat => l.length - i) (fun i => i ≤ l.length)
  (fun i => [(0, Q5 (D6 call)), (1, A0e l), (5, .own 999 4 0 i (decide (0 < i))), (6, I i)])
  (fun i => [(999, .row 4 (decide (0 < i)) ((F7 (A1h call) (l.take i)).map U4))]) 0 (Nat.zero_le _) ?_ ?_
 ·simp only [List.take_zero, B2l, List.map_nil, Nat.lt_irrefl, decide_false]
  exact (sR [(999, 888)] [])
 intro i hi
 have hsl : (F7 (A1h call) (l.take i)).length = i := by rw [O6, List.length_take]; omega
 by_cases hil : i < l.length
 ·have d0 : decide (i < l.length) = true := decide_eq_true hil
  obtain ⟨x, hx⟩ := F0 hil
  have hxv := hv x (List.mem_of_getElem? hx)
  have hgx : (l.map U4)[i]? = some [.v (.string (D6 x.1)), .v (.int .i64 x.2.1), .v (.int .i64 x.2.2.1), .sl 2 (x.2.2.2.map D7)] := by rw [List.getElem?_map, hx]; rfl
  have ei : IntKind.i64.wrap ((i : Int) + 1) = ((i + 1 : Nat) : Int) := by rw [A5 (by omega) (by omega)]; omega
  have hnext : F7 (A1h call) (l.take (i + 1)) = A9o (A1h call) x (F7 (A1h call) (l.take i)) := by
   rw [List.take_add_one, hx]; exact A20 _ _ x
  have hmem : ∀ y ∈ F7 (A1h call) (l.take i), y.2.2.2.length ≤ 100000 ∧ inS y := fun y hy => hv y (List.mem_of_mem_take ((Y1 _ y _).1 hy))
  generalize hS : F7 (A1h call) (l.take i) = S at *
  have hSl : (S.map U4).length = i := by rw [List.length_map]; exact hsl
  have tfin : ∀ k, k ≤ i → (∀ j y, k ≤ j → S[j]? = some y → A1h call x y = true) → (∀ y, k ≠ 0 → S[k - 1]? = some y → A1h call x y = false) →
    (F7 (A1h call) (l.take (i + 1))).map U4 = (S.map U4).take k ++ [[.v (.string (D6 x.1)), .v (.int .i64 x.2.1), .v (.int .i64 x.2.2.1), .sl 2 (x.2.2.2.map D7)]] ++ (S.map U4).drop k := by
   intro k hk h1 h2
   rw [hnext, D9h _ _ _ k (by omega) h1 h2, List.map_append, List.map_cons, List.map_take, List.map_drop, List.append_assoc]
   rfl
  simp only [go_sem, hlen, d0]
  refine C8 (fun k : Nat => k) (fun k => k ≤ i ∧ ∀ j y, k ≤ j → S[j]? = some y → A1h call x y = true)
   (fun k => [(0, Q5 (D6 call)), (1, A0e l), (5, .own 999 4 0 i (decide (0 < i))), (6, I i), (7, I k)])
   (fun _ => [(999, .row 4 (decide (0 < i)) (S.map U4))]) i ⟨Nat.le_refl _, fun j y hj hy => by have := (List.getElem?_eq_some_iff.1 hy).1; omega⟩ (sR [] []) ?_
  rintro k ⟨hk, hab⟩
  have c1 : ((k : Int) ≤ (i : Int)) = True := eq_true (by omega)
  have c2 : ((i : Int) ≤ (i : Int)) = True := eq_true (by omega)
  have b1 : k * 56 ≤ 2 ^ 47 := by omega
  have b2 : k < 2 ^ 47 := by omega
  have b3 : (k + 1) * 56 ≤ 2 ^ 47 := by omega
  have b4 : k + 1 < 2 ^ 47 := by omega
  have b5 : (i + 1) * 56 ≤ 2 ^ 47 := by omega
  have b6 : i + 1 < 2 ^ 47 := by omega
  have c3 : (((i : Nat) : Int) - ((k : Nat) : Int)).toNat = i - k := by omega
  have tl : ((S.map U4).take k).length = k := by rw [List.length_take]; omega
  have nk : (k ≤ i) = True := eq_true hk
  have nk2 : (k + (i - k) ≤ i) = True := eq_true (by omega)
  have dl : ((S.map U4).drop k).length = i - k := by rw [List.length_drop]; omega
  have td : ((S.map U4).drop k).take (i - k) = (S.map U4).drop k := List.take_of_length_le (by omega)
  have sm : k + 1 + (i - k) = i + 1 := by omega
  by_cases hk0 : 0 < k
  ·have d1 : decide ((0 : Int) < (k : Int)) = true := decide_eq_true (by omega)
   have di : decide (0 < i) = true := decide_eq_true (by omega)
   have wk : IntKind.i64.wrap ((k : Int) - 1) = ((k - 1 : Nat) : Int) := by rw [A5 (by omega) (by omega)]; omega
   obtain ⟨y, hy⟩ := F0 (show k - 1 < S.length by omega)
   have hgy : (S.map U4)[k - 1]? = some [.v (.string (D6 y.1)), .v (.int .i64 y.2.1), .v (.int .i64 y.2.2.1), .sl 2 (y.2.2.2.map D7)] := by rw [List.getElem?_map, hy]; rfl
   have ib : ((k - 1 : Nat) : Int) < (i : Int) := by omega
   have hgo : A1h call x y = true → ∀ j z, k - 1 ≤ j → S[j]? = some z → A1h call x z = true := by
    intro h j z hj hz
    rcases Nat.lt_or_ge j k with h' | h'
    ·obtain rfl : j = k - 1 := by omega
     rw [hy] at hz; injection hz with hz; subst hz; exact h
    ·exact hab j z h' hz
   have hst : A1h call x y = false → ∀ z, k ≠ 0 → S[k - 1]? = some z → A1h call x z = false := by
    intro h z _ hz
    rw [hy] at hz; injection hz with hz; subst hz; exact h
   cases hnm : (call == X7)
   ·have hye := hmem y (List.mem_of_getElem? hy)
    have hMx := A72 call x
    have hMy := A72 call y
    have hxv1 := hMx hxv.1 hxv.2
    have hyv1 := hMy hye.1 hye.2
    have hB := C5v (T6 (A2k call) y.2.2.2) (T6 (A2k call) x.2.2.2) (decide (A2o call = 1))
    have hlt : A1h call x y = decide (B9l (T6 (A2k call) x.2.2.2) (T6 (A2k call) y.2.2.2) (decide (A2o call = 1)) < 0) := by unfold A1h; rw [if_neg (by simp only [hnm]; decide)]; rfl
    simp only [go_sem, d1, di, qn, hnm, wk, hgy, ib, hlen, hgx, d0]
    refine A6 hyv1 ?_
    simp only [go_sem, d1, di, qn, hnm, wk, hgy, ib, hlen, hgx, d0]
    refine A6 hxv1 ?_
    simp only [go_sem, d1, di, qn, hnm, wk, hgy, ib, hlen, hgx, d0]
    refine A6 hK ?_
    simp only [go_sem, d1, di, qn, hnm, wk, hgy, ib, hlen, hgx, d0]
    refine A6 hB ?_
    cases hb : decide (B9l (T6 (A2k call) x.2.2.2) (T6 (A2k call) y.2.2.2) (decide (A2o call = 1)) < 0)
    ·rw [hb] at hlt
     have hlast := hst hlt
     simp only [go_sem, d1, di, qn, hnm, wk, hgy, ib, hlen, hgx, d0]
     ((try (with_reducible refine rF ?_)); (try simp only [go_sem, d1, di, qn, hnm, wk, hgy, ib, hlen, hgx, d0, c1, c2, c3, b1, b2, b3, b4, b5, b6, hSl, tl, nk, nk2, dl, td, sm, ei]))
     have di1 : decide (0 < i + 1) = true := decide_eq_true (by omega)
     clear b1 b2 b3 b4 b5 b6
     ((try (with_reducible refine rF ?_)); (try simp only [go_sem, ei]))
     refine C3 (i + 1) (by first | omega | (simp only; omega)) (by omega) ?_
     have tf := tfin k hk hab hlast
     rw [di1, tf]
     exact (sR [(999, 161)] [])
    ·rw [hb] at hlt
     simp only [go_sem, d1, di, qn, hnm, wk, hgy, ib, hlen, hgx, d0]
     ((try (with_reducible refine rF ?_)); (try simp only [go_sem, d1, di, qn, hnm, wk, hgy, ib, hlen, hgx, d0]))
     exact C3 (k - 1) (by first | omega | (simp only; omega)) ⟨by omega, hgo hlt⟩ (sR [] [])
   ·have hlt : A1h call x y = decide (A26 x.1 y.1 < 0) := by unfold A1h; rw [if_pos hnm]; rfl
    have ql := E04 y.1 x.1
    cases hb : decide (A26 x.1 y.1 < 0)
    ·rw [hb] at ql hlt
     have hlast := hst hlt
     simp only [go_sem, d1, di, qn, hnm, wk, hgy, ib, hlen, hgx, d0, ql]
     ((try (with_reducible refine rF ?_)); (try simp only [go_sem, d1, di, qn, hnm, wk, hgy, ib, hlen, hgx, d0, ql, c1, c2, c3, b1, b2, b3, b4, b5, b6, hSl, tl, nk, nk2, dl, td, sm, ei]))
     have di1 : decide (0 < i + 1) = true := decide_eq_true (by omega)
     clear b1 b2 b3 b4 b5 b6
     ((try (with_reducible refine rF ?_)); (try simp only [go_sem, ei]))
     refine C3 (i + 1) (by first | omega | (simp only; omega)) (by omega) ?_
     have tf := tfin k hk hab hlast
     rw [di1, tf]
     exact (sR [(999, 161)] [])
    ·rw [hb] at ql hlt
     simp only [go_sem, d1, di, qn, hnm, wk, hgy, ib, hlen, hgx, d0, ql]
     ((try (with_reducible refine rF ?_)); (try simp only [go_sem, d1, di, qn, hnm, wk, hgy, ib, hlen, hgx, d0, ql]))
     exact C3 (k - 1) (by first | omega | (simp only; omega)) ⟨by omega, hgo hlt⟩ (sR [] [])
  ·have d1 : decide ((0 : Int) < (k : Int)) = false := decide_eq_false (by omega)
   have hlast : ∀ y, k ≠ 0 → S[k - 1]? = some y → A1h call x y = false := fun y h => absurd (by omega) h
   simp only [go_sem, d1]
   ((try (with_reducible refine rF ?_)); (try simp only [go_sem, d1, hlen, hgx, d0, c1, c2, c3, b1, b2, b3, b4, b5, b6, hSl, tl, nk, nk2, dl, td, sm, ei]))
   have di1 : decide (0 < i + 1) = true := decide_eq_true (by omega)
   clear b1 b2 b3 b4 b5 b6
   ((try (with_reducible refine rF ?_)); (try simp only [go_sem, ei]))
   refine C3 (i + 1) (by first | omega | (simp only; omega)) (by omega) ?_
   have tf := tfin k hk hab hlast
   rw [di1, tf]
   exact (sR [(999, 161)] [])
 ·obtain rfl : i = l.length := by omega
  have d0 : decide (l.length < l.length) = false := decide_eq_false (by omega)
  rw [List.take_length] at hsl ⊢
  simp only [go_sem, hlen, d0]
  by_cases h0 : l = []
  ·subst h0
   refine wS [] ?_
   simp only [go_sem, A8p, exists_eq_left', Option.some.injEq]
   simp [G1, G2, B1, AV.asOwn, B3, A9, AV.isNil, J8, B6, B4, B8, B2l]
  ·have hp : decide (0 < l.length) = true := decide_eq_true (List.length_pos_iff.2 h0)
   rw [hp]
   generalize F7 (A1h call) l = S at *
   refine wS [999] ?_
   simp only [go_sem, A8p, exists_eq_left', Option.some.injEq]
   simp [G1, G2, B1, AV.asOwn, B3, A9, AV.isNil, J8, B6, B4, B8, hsl, List.take_of_length_le]

def P0 (n : Num) : Bool := decide (0 ≤ n.2) && (decide (n.2 % 1000000 = 0) && decide (n.2 / 1000000 ≤ 1099511627776))
def W6 (n : Num) : List T := [.v (.int .i64 (n.2 / 1000000))]
def B6e (l : List Num) : AV := .tp [.t (.sl 1 (if l.all P0 = true then l.map W6 else [])), Bo (l.all P0)]

theorem B5l {α : Type} {p : α → Bool} {l : List α} {i : Nat} {x : α} (hx : l[i]? = some x) (h : (l.take i).all p = true) (hp : p x = true) : (l.take (i + 1)).all p = true := by
 rw [List.take_add_one, hx, List.all_append, h]
 simp [hp]

theorem C4y {α : Type} {p : α → Bool} {l : List α} {i : Nat} {x : α} (hx : l[i]? = some x) (hp : p x = false) : l.all p = false := by
 rw [Bool.eq_false_iff]
 intro h
 rw [List.all_eq_true.1 h x (List.mem_of_getElem? hx)] at hp
 cases hp

theorem C34 (l : List Num) (hl : l.length ≤ 1000000) (h : ∀ n ∈ l, inN n) : Meets Tryz.prog E0 A7d [M6 l] [] (B6e l) [] := by
 refine X6 C3l ?_
 have hz : (l.map D7).length = l.length := by simp
 simp only [go_sem, B3u, hz]
 refine C8 (fun i : Nat => l.length - i) (fun i => i ≤ l.length ∧ (l.take i).all P0 = true)
  (fun i => [(0, M6 l), (4, .own 999 1 0 i (decide (0 < i))), (7, M6 l), (8, I l.length), (9, I i)])
  (fun i => [(999, .row 1 (decide (0 < i)) ((l.take i).map W6))]) 0 ⟨Nat.zero_le _, rfl⟩ ?_ ?_
 ·simp only [List.take_zero, List.map_nil, Nat.lt_irrefl, decide_false]
  exact (sR [(999, 888)] [])
 rintro i ⟨hi, hall⟩
 have htl : ((l.take i).map W6).length = i := by rw [List.length_map, List.length_take]; omega
 have ht2 : (l.take i).length = i := by rw [List.length_take]; omega
 have ht3 : (i = (l.take i).length) = True := eq_true ht2.symm
 by_cases hil : i < l.length
 ·have d0 : decide (i < l.length) = true := decide_eq_true hil
  obtain ⟨n, hn⟩ := F0 hil
  have hv := h n (List.mem_of_getElem? hn)
  obtain ⟨hv1, hv2⟩ := hv
  have hg : (l.map D7)[i]? = some [.v (.bool n.1), .v (.int .i64 n.2)] := by rw [List.getElem?_map, hn]; rfl
  have ei : IntKind.i64.wrap ((i : Int) + 1) = ((i + 1 : Nat) : Int) := by rw [A5 (by omega) (by omega)]; omega
  have a0 : ¬ (1000000 : Int) = 0 := by decide
  cases k1 : decide (n.2 < 0)
  ·have k1' := of_decide_eq_false k1
   have q1 : n.2.tmod 1000000 = n.2 % 1000000 := J6 (by omega)
   have q2 : n.2.tdiv 1000000 = n.2 / 1000000 := J1 (by omega)
   have q5 : IntKind.i64.wrap (n.2 / 1000000) = n.2 / 1000000 := A5 (by omega) (by omega)
   have b1 : (i + 1) * 8 ≤ 2 ^ 47 := by omega
   have b2 : i + 1 < 2 ^ 47 := by omega
   cases k2 : decide (n.2 % 1000000 = 0)
   ·simp only [go_sem, hz, d0, hg, k1, C1 a0, q1, k2]
    have hp : P0 n = false := by unfold P0; rw [k2]; simp
    unfold B6e
    refine wS [] ?_
    simp only [go_sem, A0g, exists_eq_left', Option.some.injEq]
    simp [G1, G2, B1, AV.asOwn, B3, A9, AV.isNil, J8, B6, B4, B8, C4y hn hp]
   ·cases k3 : decide (1099511627776 < n.2 / 1000000)
    ·simp only [go_sem, hz, d0, hg, k1, C1 a0, q1, k2, q2, q5, k3]
     ((try (with_reducible refine rF ?_)); (try simp only [go_sem, hz, d0, hg, b1, b2, ei, htl, ht2, ht3]))
     have hp : P0 n = true := by unfold P0; rw [decide_eq_true (show 0 ≤ n.2 by omega), k2, decide_eq_true (show n.2 / 1000000 ≤ 1099511627776 by have := of_decide_eq_false k3; omega)]; rfl
     have di1 : decide (0 < i + 1) = true := decide_eq_true (by omega)
     have tf : (l.take (i + 1)).map W6 = (l.take i).map W6 ++ [[.v (.int .i64 (n.2 / 1000000))]] := by rw [List.take_add_one, hn, List.map_append]; rfl
     clear b1 b2
     refine C3 (i + 1) (by first | omega | (simp only; omega)) ⟨by omega, B5l hn hall hp⟩ ?_
     rw [di1, tf]
     exact (sR [(999, 133)] [])
    ·simp only [go_sem, hz, d0, hg, k1, C1 a0, q1, k2, q2, q5, k3]
     have hp : P0 n = false := by unfold P0; rw [decide_eq_false (show ¬ n.2 / 1000000 ≤ 1099511627776 by have := of_decide_eq_true k3; omega)]; simp
     unfold B6e
     refine wS [] ?_
     simp only [go_sem, A0g, exists_eq_left', Option.some.injEq]
     simp [G1, G2, B1, AV.asOwn, B3, A9, AV.isNil, J8, B6, B4, B8, C4y hn hp]
  ·simp only [go_sem, hz, d0, hg, k1]
   have hp : P0 n = false := by unfold P0; rw [decide_eq_false (show ¬ 0 ≤ n.2 by have := of_decide_eq_true k1; omega)]; simp
   unfold B6e
   refine wS [] ?_
   simp only [go_sem, A0g, exists_eq_left', Option.some.injEq]
   simp [G1, G2, B1, AV.asOwn, B3, A9, AV.isNil, J8, B6, B4, B8, C4y hn hp]
 ·obtain rfl : i = l.length := by omega
  have d0 : decide (l.length < l.length) = false := decide_eq_false (by omega)
  rw [List.take_length] at hall htl ⊢
  simp only [go_sem, hz, d0]
  unfold B6e
  rw [if_pos hall, hall]
  by_cases h0 : l = []
  ·subst h0
   refine wS [] ?_
   simp only [go_sem, A0g, exists_eq_left', Option.some.injEq]
   simp [G1, G2, B1, AV.asOwn, B3, A9, AV.isNil, J8, B6, B4, B8]
  ·have hp : decide (0 < l.length) = true := decide_eq_true (List.length_pos_iff.2 h0)
   rw [hp]
   refine wS [999] ?_
   simp only [go_sem, A0g, exists_eq_left', Option.some.injEq]
   simp [G1, G2, B1, AV.asOwn, B3, A9, AV.isNil, J8, B6, B4, B8, hz, List.take_of_length_le]

def B0p (n : Num) : Bool := C1e n && (!n.1 && decide (n.2.tmod 1000000 = 0))
def w25 (n : Num) : Int := if B0p n = true then n.2.tdiv 1000000 else 0

theorem C6o (n : Num) (lo hi : Int) (h : inN n) : Meets Tryz.prog E0 B1l [.ag [Bo n.1, I n.2], I lo, I hi] [] (.tp [I (w25 n), Bo (B0p n && (decide (lo ≤ w25 n) && decide (w25 n ≤ hi)))]) [] := by
 refine X6 C6i ?_
 obtain ⟨x, v⟩ := n
 obtain ⟨h1, h2⟩ := h
 have hR := A24 x v h1
 have a0 : ¬ (1000000 : Int) = 0 := by decide
 have w5 : IntKind.i64.wrap (v.tdiv 1000000) = v.tdiv 1000000 := by
  rcases Int.le_total 0 v with q | q
  ·rw [J1 q]; exact A5 (by omega) (by omega)
  ·have e : v.tdiv 1000000 = - ((-v) / 1000000) := by rw [← J1 (show 0 ≤ -v by omega), Int.neg_tdiv, Int.neg_neg]
   rw [e]; exact A5 (by omega) (by omega)
 simp only at h1 h2
 have hn : (if x then decide (v = 0) else decide (-9223372036854775808 < v)) = C1e (x, v) := rfl
 rw [hn] at hR
 simp only [go_sem, B72]
 refine A6 hR ?_
 cases hb : C1e (x, v)
 ·have ht : B0p (x, v) = false := by unfold B0p; rw [hb]; rfl
  unfold w25
  rw [ht]
  simp only [go_sem]
  ((try (with_reducible refine rF ?_)); (try simp only [go_sem]))
  refine wE ?_
  simp only [go_sem, A1z]
 ·cases x
  ·cases k2 : decide (v.tmod 1000000 = 0)
   ·have ht : B0p (false, v) = false := by unfold B0p; rw [hb]; simp only [k2]; rfl
    unfold w25
    rw [ht]
    simp only [go_sem, C1 a0, k2]
    ((try (with_reducible refine rF ?_)); (try simp only [go_sem, C1 a0, k2]))
    refine wE ?_
    simp only [go_sem, A1z]
   ·have ht : B0p (false, v) = true := by unfold B0p; rw [hb]; simp only [k2]; rfl
    unfold w25
    rw [ht, if_pos rfl]
    simp only
    cases k3 : decide (lo ≤ v.tdiv 1000000)
    ·simp only [go_sem, C1 a0, k2, w5, k3]
     ((try (with_reducible refine rF ?_)); (try simp only [go_sem, C1 a0, k2, w5, k3]))
     refine wE ?_
     simp only [go_sem, A1z]
    ·simp only [go_sem, C1 a0, k2, w5, k3]
     ((try (with_reducible refine rF ?_)); (try simp only [go_sem, C1 a0, k2, w5, k3]))
     refine wE ?_
     simp only [go_sem, A1z]
  ·have ht : B0p (true, v) = false := by unfold B0p; rw [hb]; rfl
   unfold w25
   rw [ht]
   simp only [go_sem]
   ((try (with_reducible refine rF ?_)); (try simp only [go_sem]))
   refine wE ?_
   simp only [go_sem, A1z]

/-- Of a list, so many. -/
def A4c {α : Type} (l : List α) : List Num → List α
 | [] => l
 | n :: _ => l.take (n.2 / 1000000).toNat

theorem A9h (l : List F4) (a : List Num) (hl : l.length ≤ 1000000) (ha : a.length ≤ 1000000) (h : a.all P0 = true) : Meets Tryz.prog E0 A4u [A0e l, .t (.sl 1 (a.map W6))] [] (A0e (A4c l a)) [] := by
 refine X6 C66 ?_
 have hz : (l.map U4).length = l.length := by simp
 cases a with
 | nil =>
  simp only [A4c]
  have d0 : decide (((0 : Nat) : Int) = 0) = true := rfl
  simp only [go_sem, A8h, d0]
  refine wS [] ?_
  simp only [go_sem, A97, exists_eq_left', Option.some.injEq]
  simp [G1, G2, B1, AV.asOwn, B3, A9, AV.isNil, J8, B6, B4, B8]
 | cons n a =>
  have hn := List.all_eq_true.1 h n (by simp)
  unfold P0 at hn
  have h0 : 0 ≤ n.2 := by simp at hn; exact hn.1
  have d0 : decide (((a.length + 1 : Nat) : Int) = 0) = false := decide_eq_false (by omega)
  have hg : W6 n = [.v (.int .i64 (n.2 / 1000000))] := rfl
  have hd : 0 ≤ n.2 / 1000000 := Int.ediv_nonneg h0 (by omega)
  have e1 : min (n.2 / 1000000) (l.length : Int) = ((min (n.2 / 1000000).toNat l.length : Nat) : Int) := by omega
  have c1 : min (n.2 / 1000000).toNat l.length ≤ l.length := Nat.min_le_right _ _
  have c2 : (((min (n.2 / 1000000).toNat l.length : Nat) : Int) ≤ (l.length : Int)) = True := eq_true (by omega)
  have e2 : l.take (n.2 / 1000000).toNat = l.take (min (n.2 / 1000000).toNat l.length) := by
   rcases Nat.le_total (n.2 / 1000000).toNat l.length with q | q
   ·rw [Nat.min_eq_left q]
   ·rw [Nat.min_eq_right q, List.take_of_length_le q, List.take_length]
  simp only [A4c, e2]
  simp only [go_sem, A8h, d0, hg, hz]
  simp only [go_sem, e1, c1, c2, hz]
  refine wS [] ?_
  simp only [go_sem, A97, exists_eq_left', Option.some.injEq]
  simp [G1, G2, B1, AV.asOwn, B3, A9, AV.isNil, J8, B6, B4, B8]

theorem D72 (g : Nat) (p : F4 → Bool) (l : List F4) (hn : l.length ≤ 1000000000000) (hg : ∀ s ∈ l, Meets Tryz.prog E0 g [(.ag [Q5 (D6 (s).1), I (s).2.1, I (s).2.2.1, M6 (s).2.2.2])] [] (Bo (p s)) []) :
  Meets Tryz.prog E0 F2 [.t (.sl 4 (l.map U4)), .fn g [] []] [] (I (A4q p l 0)) [] := by
 generalize hout : A4q p l 0 = out
 refine X6 N6 ?_
 have hlen : (l.map U4).length = l.length := by simp
 simp only [go_sem, J0, hlen]
 refine C8 (fun i : Nat => l.length - i) (fun i => i ≤ l.length ∧ A4q p (l.drop i) i = out)
  (fun i => [(0, .t (.sl 4 (l.map U4))), (1, .fn g [] []), (7, I l.length), (8, I i)])
  (fun i => []) 0 ⟨Nat.zero_le _, by simpa using hout⟩ (sR [] []) ?_
 rintro i ⟨hi, hr⟩
 by_cases hil : i < l.length
 ·have d0 : decide (i < l.length) = true := decide_eq_true hil
  obtain ⟨s, hs⟩ := F0 hil
  have ei : IntKind.i64.wrap ((i : Int) + 1) = ((i + 1 : Nat) : Int) := by rw [A5 (by omega) (by omega)]; omega
  have hgr : (l.map U4)[i]? = some [.v (.string (D6 (s).1)), .v (.int .i64 (s).2.1), .v (.int .i64 (s).2.2.1), .sl 2 ((s).2.2.2.map D7)] := by rw [List.getElem?_map, hs]; rfl
  have hc := hg s (List.mem_of_getElem? hs)
  rw [A05 hs] at hr
  simp only [A4q] at hr
  simp only [go_sem, d0, hgr]
  refine A6 hc ?_
  by_cases hp : p s = true
  ·rw [if_pos hp] at hr
   rw [hp, ← hr]
   simp only [go_sem]
   refine wE ?_
   simp only [go_sem, F1]
  ·rw [if_neg hp] at hr
   rw [show p s = false from by simpa using hp]
   simp only [go_sem, ei]
   exact C3 (i + 1) (by first | omega | (simp only; omega)) ⟨by first | omega | (simp only; omega), hr⟩ (sR [] [])
 ·obtain rfl : i = l.length := by omega
  have d0 : decide (l.length < l.length) = false := decide_eq_false (by omega)
  rw [List.drop_length] at hr
  simp only [A4q] at hr
  rw [← hr]
  simp only [go_sem, d0]
  refine wE ?_
  simp only [go_sem, F1]

theorem D7v (g : Nat) (p : F4 → Bool) (l : List F4) (hn : l.length ≤ 1000000000000) (hg : ∀ s ∈ l, Meets Tryz.prog E0 g [(.ag [Q5 (D6 (s).1), I (s).2.1, I (s).2.2.1, M6 (s).2.2.2])] [] (Bo (p s)) []) :
  Meets Tryz.prog E0 M8 [.t (.sl 4 (l.map U4)), .fn g [] []] [] (Bo (l.any p)) [] := by
 refine X6 A18 ?_
 have e := D1w p l
 simp only [go_sem, R8]
 refine A6 (D72 g p l hn hg) ?_
 simp only [go_sem, e]
 refine wE ?_
 simp only [go_sem, R9]

def A29 (s : F4) : Bool := decide (s.1.length ≤ 400) && (decide (s.2.2.2.length ≤ 2000) && (decide (1 ≤ s.2.2.1) && (decide (s.2.2.1 ≤ 86400) && (decide (0 ≤ s.2.1) && (decide (s.2.1 ≤ 1099511627776) && s.2.2.2.all C1e)))))
abbrev B24 (s : F4) : AV := .ag [Q5 (D6 s.1), I s.2.1, I s.2.2.1, M6 s.2.2.2]

theorem C0y (n : Num) (h : -9223372036854775808 ≤ n.2) : Meets Tryz.prog E0 A35 [.ag [Bo n.1, I n.2]] [] (Bo (!C1e n)) [] := by
 refine X6 C15 ?_
 have hR := B10 n.1 n.2 h
 unfold C1e
 simp only [go_sem, B2q]
 refine A6 hR ?_
 simp only [go_sem]
 refine wE ?_
 simp only [go_sem, B2g]

theorem D79 {α : Type} (p : α → Bool) (l : List α) : l.any (fun x => !p x) = !l.all p := by
 induction l with
 | nil => rfl
 | cons x l ih => simp only [List.any_cons, List.all_cons, ih, Bool.not_and]

theorem B0s (a b : Int) : decide (a ≤ b) = !decide (b < a) := by by_cases q : b < a <;> simp [q] <;> omega
theorem C3u (a b : Nat) : decide (a ≤ b) = !decide ((b : Int) < (a : Int)) := by by_cases q : b < a <;> simp [q] <;> omega

theorem C4b (s : F4) (hl : s.2.2.2.length ≤ 1000000000000) (h : inS s) : Meets Tryz.prog E0 A8s [B24 s] [] (Bo (A29 s)) [] := by
 refine X6 C4v ?_
 obtain ⟨nm, st, sp, vs⟩ := s
 simp only at hl
 have hC := D2e A35 (fun n => !C1e n) vs hl (fun n hn => C0y n (h n hn).1)
 rw [D79] at hC
 unfold A29
 simp only
 have hz : (vs.map D7).length = vs.length := by simp
 rw [C3u nm.length, C3u vs.length, B0s 1 sp, B0s sp 86400, B0s 0 st, B0s st]
 cases h1 : decide ((400 : Int) < (nm.length : Int))
 case true =>
  have h1' : decide (((400 : Nat) : Int) < (nm.length : Int)) = true := h1
  simp only [go_sem, W5, C9, h1]
  refine wE ?_
  simp only [go_sem, X5, h1']
 case false =>
  have h1' : decide (((400 : Nat) : Int) < (nm.length : Int)) = false := h1
  cases h2 : decide ((2000 : Int) < (vs.length : Int))
  case true =>
   have h2' : decide (((2000 : Nat) : Int) < (vs.length : Int)) = true := h2
   simp only [go_sem, W5, C9, h1, hz, h2]
   refine wE ?_
   simp only [go_sem, X5, h1', h2']
  case false =>
   have h2' : decide (((2000 : Nat) : Int) < (vs.length : Int)) = false := h2
   cases h3 : decide (sp < 1)
   case true =>
    simp only [go_sem, W5, C9, h1, hz, h2, h3]
    refine wE ?_
    simp only [go_sem, X5, h1', h2']
   case false =>
    cases h4 : decide (86400 < sp)
    case true =>
     simp only [go_sem, W5, C9, h1, hz, h2, h3, h4]
     refine wE ?_
     simp only [go_sem, X5, h1', h2']
    case false =>
     cases h5 : decide (st < 0)
     case true =>
      simp only [go_sem, W5, C9, h1, hz, h2, h3, h4, h5]
      refine wE ?_
      simp only [go_sem, X5, h1', h2']
     case false =>
      cases h6 : decide (1099511627776 < st)
      case true =>
       simp only [go_sem, W5, C9, h1, hz, h2, h3, h4, h5, h6]
       refine wE ?_
       simp only [go_sem, X5, h1', h2']
      case false =>
       simp only [go_sem, W5, C9, h1, hz, h2, h3, h4, h5, h6]
       refine A6 hC ?_
       simp only [go_sem, Bool.not_not]
       refine wE ?_
       simp only [go_sem, X5, h1', h2']

theorem C5y (t : Int) : Meets Tryz.prog E0 B0u [I t] [] (Bo (!decide (t < 0) && !decide (1099511627776 < t))) [] := by
 refine X6 C6f ?_
 rw [← B0s, ← B0s]
 cases h1 : decide (0 ≤ t)
 ·simp only [go_sem, B11, h1]
  refine wE ?_
  simp only [go_sem, B16]
 ·simp only [go_sem, B11, h1]
  refine wE ?_
  simp only [go_sem, B16]

theorem C6j (s : F4) (hl : s.2.2.2.length ≤ 1000000000000) (h : inS s) : Meets Tryz.prog E0 B1k [B24 s] [] (Bo (A29 s)) [] := by
 refine X6 C6q ?_
 obtain ⟨nm, st, sp, vs⟩ := s
 simp only at hl
 have hT := C5y st
 unfold A29
 simp only
 have hz : (vs.map D7).length = vs.length := by simp
 rw [C3u nm.length, C3u vs.length, B0s 1 sp, B0s sp 86400, B0s 0 st, B0s st]
 cases h1 : decide ((400 : Int) < (nm.length : Int))
 case true =>
  have h1' : decide (((400 : Nat) : Int) < (nm.length : Int)) = true := h1
  simp only [go_sem, A3q, C9, h1]
  refine wE ?_
  simp only [go_sem, V5, h1']
 case false =>
  have h1' : decide (((400 : Nat) : Int) < (nm.length : Int)) = false := h1
  cases h3 : decide (sp < 1)
  case true =>
   simp only [go_sem, A3q, C9, h1, hz, h3]
   refine wE ?_
   simp only [go_sem, V5, h1', Bool.and_false]
  case false =>
   cases h4 : decide (86400 < sp)
   case true =>
    simp only [go_sem, A3q, C9, h1, hz, h3, h4]
    refine wE ?_
    simp only [go_sem, V5, h1', Bool.and_false]
   case false =>
    simp only [go_sem, A3q, C9, h1, hz, h3, h4]
    refine A6 hT ?_
    cases h5 : decide (st < 0)
    case true =>
     simp only [go_sem]
     refine wE ?_
     simp only [go_sem, V5, h1', Bool.and_false]
    case false =>
     cases h6 : decide (1099511627776 < st)
     case true =>
      simp only [go_sem]
      refine wE ?_
      simp only [go_sem, V5, h1', Bool.and_false]
     case false =>
      cases h2 : decide ((2000 : Int) < (vs.length : Int))
      case true =>
       have h2' : decide (((2000 : Nat) : Int) < (vs.length : Int)) = true := h2
       simp only [go_sem, hz, h2]
       refine wE ?_
       simp only [go_sem, V5, h1', h2']
      case false =>
       have h2' : decide (((2000 : Nat) : Int) < (vs.length : Int)) = false := h2
       simp only [h1', h2', Bool.not_false, Bool.true_and]
       have h2n := of_decide_eq_false h2
       generalize hv : vs.all C1e = v
       simp only [go_sem, hz, h2]
       refine C8 (fun i : Nat => vs.length - i) (fun i => i ≤ vs.length ∧ (vs.drop i).all C1e = v) (fun i => [(1, .ptr 100 0), (3, I i)]) (fun _ => [(100, .box [Q5 (D6 nm), I st, I sp, M6 vs])]) 0 ⟨Nat.zero_le _, hv⟩ (sR [] []) ?_
       rintro i ⟨hi, hm⟩
       by_cases hil : i < vs.length
       ·have d0 : decide (i < vs.length) = true := decide_eq_true hil
        obtain ⟨n, hn⟩ := F0 hil
        have hR := A24 n.1 n.2 (h n (List.mem_of_getElem? hn)).1
        have hg : (vs.map D7)[i]? = some [.v (.bool n.1), .v (.int .i64 n.2)] := by rw [List.getElem?_map, hn]; rfl
        have ei : IntKind.i64.wrap ((i : Int) + 1) = ((i + 1 : Nat) : Int) := by rw [A5 (by omega) (by omega)]; omega
        rw [A05 hn, List.all_cons] at hm
        have hnb : (if n.1 = true then decide (n.2 = 0) else decide (-9223372036854775808 < n.2)) = C1e n := rfl
        rw [hnb] at hR
        simp only [go_sem, hz, d0, hg]
        refine A6 hR ?_
        cases hb : C1e n
        ·rw [hb, Bool.false_and] at hm
         rw [← hm]
         simp only [go_sem]
         refine wE ?_
         simp only [go_sem, V5]
        ·rw [hb, Bool.true_and] at hm
         simp only [go_sem, ei]
         exact C3 (i + 1) (by first | omega | (simp only; omega)) ⟨hil, hm⟩ (sR [] [])
       ·obtain rfl : i = vs.length := by omega
        have d0 : decide (vs.length < vs.length) = false := decide_eq_false (by omega)
        rw [List.drop_length] at hm
        simp only [List.all_nil] at hm
        rw [← hm]
        simp only [go_sem, hz, d0]
        refine wE ?_
        simp only [go_sem, V5]

theorem D8k (a b : F4) (hl : a.2.2.2.length ≤ maxLen) : Meets Tryz.prog E0 A4b [B24 a, B24 b] [] (Bo (decide (a = b))) [] := by
 refine X6 B8k ?_
 obtain ⟨an, at_, ap, av⟩ := a
 obtain ⟨bn, bt, bp, bv⟩ := b
 have hS := C8u av bv hl
 have q := eqT an bn
 cases h1 : (an == bn)
 ·have e : decide ((an, at_, ap, av) = (bn, bt, bp, bv)) = false := decide_eq_false (fun e => by injection e with e1; subst e1; simp at h1)
  rw [h1] at q
  rw [e]
  simp only [go_sem, Z8, q]
  refine wE ?_
  simp only [go_sem, A00]
 ·have h1' : an = bn := by simpa using h1
  subst h1'
  rw [h1] at q
  cases h2 : decide (at_ = bt)
  ·have h2' := of_decide_eq_false h2
   have e : decide ((an, at_, ap, av) = (an, bt, bp, bv)) = false := decide_eq_false (fun e => by injection e with _ e; injection e with e; exact h2' e)
   rw [e]
   simp only [go_sem, Z8, q, h2]
   refine wE ?_
   simp only [go_sem, A00]
  ·obtain rfl := of_decide_eq_true h2
   cases h3 : decide (ap = bp)
   ·have h3' := of_decide_eq_false h3
    have e : decide ((an, at_, ap, av) = (an, at_, bp, bv)) = false := decide_eq_false (fun e => by injection e with _ e; injection e with _ e; injection e with e; exact h3' e)
    rw [e]
    simp only [go_sem, Z8, q, h2, h3]
    refine wE ?_
    simp only [go_sem, A00]
   ·obtain rfl := of_decide_eq_true h3
    have e : decide ((an, at_, ap, av) = (an, at_, ap, bv)) = decide (av = bv) := by simp
    rw [e]
    simp only [go_sem, Z8, q, h2, h3]
    refine A6 hS ?_
    simp only [go_sem]
    refine wE ?_
    simp only [go_sem, A00]

theorem C9f {α : Type} {a b : List α} {i : Nat} {x y : α} (hx : a[i]? = some x) (hy : b[i]? = some y) (h : a.take i = b.take i) (e : x = y) : a.take (i + 1) = b.take (i + 1) := by
 rw [List.take_add_one, List.take_add_one, hx, hy, h, e]

theorem A3c (a b : List F4) (hl : a.length ≤ 1000000) (hl2 : b.length ≤ 1000000) (hv : ∀ s ∈ a, s.2.2.2.length ≤ maxLen) : Meets Tryz.prog E0 Z6 [A0e a, A0e b] [] (Bo (decide (a = b))) [] := by
 refine X6 C13 ?_
 have hz : (a.map U4).length = a.length := by simp
 have hz2 : (b.map U4).length = b.length := by simp
 cases h0 : decide (a.length = b.length)
 ·have h0' := of_decide_eq_false h0
  have e : decide (a = b) = false := decide_eq_false (fun e => h0' (by rw [e]))
  rw [e]
  simp only [go_sem, A66, hz, hz2, h0]
  refine wE ?_
  simp only [go_sem, A36]
 ·have h0' := of_decide_eq_true h0
  simp only [go_sem, A66, hz, hz2, h0]
  refine C8 (fun i : Nat => a.length - i) (fun i => i ≤ a.length ∧ a.take i = b.take i)
   (fun i => [(0, A0e a), (1, A0e b), (5, I i)]) (fun _ => []) 0 ⟨Nat.zero_le _, rfl⟩ (sR [] []) ?_
  rintro i ⟨hi, hall⟩
  by_cases hil : i < a.length
  ·have d0 : decide (i < a.length) = true := decide_eq_true hil
   obtain ⟨x, hx⟩ := F0 hil
   obtain ⟨y, hy⟩ := F0 (show i < b.length by omega)
   have hgx : (a.map U4)[i]? = some [.v (.string (D6 x.1)), .v (.int .i64 x.2.1), .v (.int .i64 x.2.2.1), .sl 2 (x.2.2.2.map D7)] := by rw [List.getElem?_map, hx]; rfl
   have hgy : (b.map U4)[i]? = some [.v (.string (D6 y.1)), .v (.int .i64 y.2.1), .v (.int .i64 y.2.2.1), .sl 2 (y.2.2.2.map D7)] := by rw [List.getElem?_map, hy]; rfl
   have ei : IntKind.i64.wrap ((i : Int) + 1) = ((i + 1 : Nat) : Int) := by rw [A5 (by omega) (by omega)]; omega
   have hS := D8k x y (hv x (List.mem_of_getElem? hx))
   simp only [go_sem, hz, hz2, d0, hgx, hgy]
   refine A6 hS ?_
   cases h1 : decide (x = y)
   ·have h1' := of_decide_eq_false h1
    have e : decide (a = b) = false := decide_eq_false (fun e => h1' (by subst e; rw [hx] at hy; injection hy))
    rw [e]
    simp only [go_sem]
    ((try (with_reducible refine rF ?_)); (try simp only [go_sem]))
    refine wE ?_
    simp only [go_sem, A36]
   ·simp only [go_sem, ei]
    ((try (with_reducible refine rF ?_)); (try simp only [go_sem, ei]))
    exact C3 (i + 1) (by first | omega | (simp only; omega)) ⟨by omega, C9f hx hy hall (of_decide_eq_true h1)⟩ (sR [] [])
  ·obtain rfl : i = a.length := by omega
   have d0 : decide (a.length < a.length) = false := decide_eq_false (by omega)
   have e : decide (a = b) = true := by
    refine decide_eq_true ?_
    rw [List.take_length, List.take_of_length_le (by omega)] at hall
    exact hall
   rw [e]
   simp only [go_sem, hz, d0]
   refine wE ?_
   simp only [go_sem, A36]

theorem D6u (g : Nat) (w : Nat) (c0 c1 : List T) (p : F4 → Bool) (l : List F4) (hn : l.length ≤ 1000000) (hg : ∀ s ∈ l, Meets Tryz.prog E0 g ([(.ag [Q5 (D6 (s).1), I (s).2.1, I (s).2.2.1, M6 (s).2.2.2])] ++ [.ptr 1 0]) [(1, .box [.fn w [] [.ptr 2 0, .ptr 3 0]]), (2, .box (c0.map .t)), (3, .box (c1.map .t))] (Bo (p s)) [(1, .box [.fn w [] [.ptr 2 0, .ptr 3 0]]), (2, .box (c0.map .t)), (3, .box (c1.map .t))]) :
  Meets Tryz.prog E0 F2 [.own 0 4 0 l.length true, .fn g [] [.ptr 1 0]] [(0, .row 4 true (l.map U4)), (1, .box [.fn w [] [.ptr 2 0, .ptr 3 0]]), (2, .box (c0.map .t)), (3, .box (c1.map .t))] (I (A4q p l 0)) [(0, .row 4 true (l.map U4)), (1, .box [.fn w [] [.ptr 2 0, .ptr 3 0]]), (2, .box (c0.map .t)), (3, .box (c1.map .t))] := by
 generalize hout : A4q p l 0 = out
 refine N6 (by simp) (C2 (by simp [B5, AV.ids, A4]) (by simp [Ob.live, Ob.ids, A4, B5, AV.ids])) (C2 (by simp [B5, AV.ids, A4]) (by simp [Ob.live, Ob.ids, A4, B5, AV.ids])) (by simp [A4]) (by simp [A4]) ?_
 simp only [go_sem, J0]
 refine C8 (fun i : Nat => l.length - i) (fun i => i ≤ l.length ∧ A4q p (l.drop i) i = out)
  (fun i => [(0, .own 0 4 0 l.length true), (1, .fn g [] [.ptr 1 0]), (7, I l.length), (8, I i)])
  (fun i => [(0, .row 4 true (l.map U4)), (1, .box [.fn w [] [.ptr 2 0, .ptr 3 0]]), (2, .box (c0.map .t)), (3, .box (c1.map .t))]) 0 ⟨Nat.zero_le _, by simpa using hout⟩ (sR [] []) ?_
 rintro i ⟨hi, hr⟩
 by_cases hil : i < l.length
 ·have d0 : decide (i < l.length) = true := decide_eq_true hil
  obtain ⟨s, hs⟩ := F0 hil
  have ei : IntKind.i64.wrap ((i : Int) + 1) = ((i + 1 : Nat) : Int) := by rw [A5 (by omega) (by omega)]; omega
  have ib : (i : Int) < (l.length : Int) := by omega
  have hgr : (l.map U4)[i]? = some [.v (.string (D6 (s).1)), .v (.int .i64 (s).2.1), .v (.int .i64 (s).2.2.1), .sl 2 ((s).2.2.2.map D7)] := by rw [List.getElem?_map, hs]; rfl
  have hc := hg s (List.mem_of_getElem? hs)
  rw [A05 hs] at hr
  simp only [A4q] at hr
  simp only [go_sem, d0, hgr, ib]
  refine A76 (hc) (by simp [A4, A9]) (by simp [A4]) (by simp [A4]) ?_
  by_cases hp : p s = true
  ·rw [if_pos hp] at hr
   rw [hp]
   simp only [go_sem]
   refine wO [] [] ?_
   simp only [go_sem, F1, exists_eq_left', Option.some.injEq]
   simp [G1, G2, B1, AV.asOwn, B3, A9, AV.isNil, J8, B6, B4, B8, hr]
  ·rw [if_neg hp] at hr
   rw [show p s = false from by simpa using hp]
   simp only [go_sem, ei]
   exact C3 (i + 1) (by first | omega | (simp only; omega)) ⟨by first | omega | (simp only; omega), hr⟩ (sR [] [])
 ·obtain rfl : i = l.length := by omega
  have d0 : decide (l.length < l.length) = false := decide_eq_false (by omega)
  rw [List.drop_length] at hr
  simp only [A4q] at hr
  simp only [go_sem, d0]
  refine wO [] [] ?_
  simp only [go_sem, F1, exists_eq_left', Option.some.injEq]
  simp [G1, G2, B1, AV.asOwn, B3, A9, AV.isNil, J8, B6, B4, B8, hr]

theorem D8a (g : Nat) (w : Nat) (c0 c1 : List T) (p : F4 → Bool) (l : List F4) (hn : l.length ≤ 100000) (hg : ∀ s ∈ l, Meets Tryz.prog E0 g ([(.ag [Q5 (D6 (s).1), I (s).2.1, I (s).2.2.1, M6 (s).2.2.2])] ++ [.ptr 1 0]) [(1, .box [.fn w [] [.ptr 2 0, .ptr 3 0]]), (2, .box (c0.map .t)), (3, .box (c1.map .t))] (Bo (p s)) [(1, .box [.fn w [] [.ptr 2 0, .ptr 3 0]]), (2, .box (c0.map .t)), (3, .box (c1.map .t))]) :
  Meets Tryz.prog E0 I4 [.own 0 4 0 l.length true, .fn g [] [.ptr 1 0]] [(0, .row 4 true (l.map U4)), (1, .box [.fn w [] [.ptr 2 0, .ptr 3 0]]), (2, .box (c0.map .t)), (3, .box (c1.map .t))] (.own 0 4 0 (A03 p l).length true) [(0, .row 4 true ((A03 p l).map U4 ++ List.replicate (l.length - (A03 p l).length) [T.v (.string (bs [])), T.v (.int .i64 0), T.v (.int .i64 0), T.v (.slice none 0 0)])), (1, .box [.fn w [] [.ptr 2 0, .ptr 3 0]]), (2, .box (c0.map .t)), (3, .box (c1.map .t))] := by
 have bI := D6u g w c0 c1 p l (by omega) hg
 refine T4 (by simp) (C2 (by simp [B5, AV.ids, A4]) (by simp [Ob.live, Ob.ids, A4, B5, AV.ids])) (C2 (by simp [B5, AV.ids, A4]) (by simp [Ob.live, Ob.ids, A4, B5, AV.ids])) (by simp [A4]) (by simp [A4]) ?_
 rcases A7x p l with hno | ⟨pre, s0, post, hl, hpre, hs0⟩
 ·rw [B6j 0 hno] at bI
  have hle : A03 p l = l := List.filter_eq_self.2 (fun s hs => by simp [hno s hs])
  rw [hle, Nat.sub_self]
  simp only [go_sem, I5]
  refine oB (bI) ?_
  have d1 : decide ((-1 : Int) = -1) = true := rfl
  simp only [go_sem, d1]
  refine wO [] [] ?_
  simp only [go_sem, I6, exists_eq_left', Option.some.injEq]
  simp [G1, G2, B1, AV.asOwn, B3, A9, AV.isNil, J8, B6, B4, B8, ren]
 ·have hidx : A4q p l 0 = (pre.length : Int) := by rw [hl, B62 hs0 0 hpre, Nat.zero_add]
  rw [hidx] at bI
  have hll : pre.length + (post.length + 1) = l.length := by rw [hl]; simp
  have d1 : decide ((pre.length : Int) = -1) = false := decide_eq_false (by omega)
  have e1 : IntKind.i64.wrap ((pre.length : Int) + 1) = ((pre.length + 1 : Nat) : Int) := by rw [A5 (by omega) (by omega)]; omega
  have htk : l.take (pre.length + 1) = pre ++ [s0] := by
   rw [hl, List.take_append, List.take_of_length_le (by omega), show pre.length + 1 - pre.length = 1 by omega]; rfl
  have hlp : A03 p (l.take (pre.length + 1)) = pre := by
   rw [htk]; unfold A03
   rw [List.filter_append, List.filter_eq_self.2 (fun s hs => by simp [hpre s hs])]
   simp [hs0]
  have hdr : l.drop (pre.length + 1) = post := by rw [hl]; simp
  simp only [go_sem, I5]
  refine oB (bI) ?_
  simp only [go_sem, d1, e1]
  refine C8 (fun x : Nat × List F4 => l.length - x.1) (fun x => x.1 ≤ l.length ∧ x.2 ≠ [] ∧ (A03 p (l.take x.1) ++ x.2).length = x.1)
   (fun x => [(0, .own 0 4 0 l.length true), (1, .fn g [] [.ptr 1 0]), (5, I (A03 p (l.take x.1)).length), (6, I x.1)])
   (fun x => [(0, .row 4 true (((A03 p (l.take x.1) ++ x.2) ++ l.drop x.1).map U4)), (1, .box [.fn w [] [.ptr 2 0, .ptr 3 0]]), (2, .box (c0.map .t)), (3, .box (c1.map .t))])
   (pre.length + 1, [s0]) ⟨by omega, by simp, by rw [hlp]; simp⟩ ?_ ?_
  ·simp only [hlp, hdr]
   rw [show (pre ++ [s0]) ++ post = l by rw [hl]; simp]
   exact (sR [] [])
  rintro ⟨j, st⟩ ⟨hj, hst, hjl⟩
  simp only at hj hst hjl
  by_cases hjlt : j < l.length
  ·have d2 : decide (j < l.length) = true := decide_eq_true hjlt
   obtain ⟨s, hs⟩ := F0 hjlt
   have hc := hg s (List.mem_of_getElem? hs)
   have ei : IntKind.i64.wrap ((j : Int) + 1) = ((j + 1 : Nat) : Int) := by rw [A5 (by omega) (by omega)]; omega
   have ib : (j : Int) < (l.length : Int) := by omega
   have hget := D0k hs hjl
   have hsucc := C5e (p := p) hs
   have hdj := A05 hs
   generalize hK : A03 p (l.take j) = K at *
   have hgr : ((K ++ st ++ l.drop j).map U4)[j]? = some [.v (.string (D6 (s).1)), .v (.int .i64 (s).2.1), .v (.int .i64 (s).2.2.1), .sl 2 ((s).2.2.2.map D7)] := by rw [List.getElem?_map, hget]; rfl
   simp only [go_sem, d2, hgr, ib]
   refine A76 (hc) (by simp [A4, A9]) (by simp [A4]) (by simp [A4]) ?_
   by_cases hp : p s = true
   ·rw [if_pos hp, List.append_nil] at hsucc
    rw [hp]
    simp only [go_sem, ei]
    refine C3 (j + 1, st ++ [s]) (by simp only; omega) ⟨by simp only; omega, by simp, by simp only [hsucc]; simp at hjl ⊢; omega⟩ ?_
    simp only [hsucc]
    rw [show (K ++ st) ++ l.drop j = (K ++ (st ++ [s])) ++ l.drop (j + 1) by rw [hdj]; simp]
    exact (sR [] [])
   ·rw [if_neg hp] at hsucc
    rw [show p s = false from by simpa using hp]
    obtain ⟨x, st', rfl⟩ : ∃ x st', st = x :: st' := by cases st with | nil => exact absurd rfl hst | cons x st' => exact ⟨x, st', rfl⟩
    have ib2 : (K.length : Int) < (l.length : Int) := by simp at hjl; omega
    have e2 : IntKind.i64.wrap ((K.length : Int) + 1) = ((K.length + 1 : Nat) : Int) := by rw [A5 (by simp at hjl; omega) (by simp at hjl; omega)]; omega
    have hgx : ((K ++ x :: st' ++ l.drop j).map U4)[K.length]? = some [.v (.string (D6 (x).1)), .v (.int .i64 (x).2.1), .v (.int .i64 (x).2.2.1), .sl 2 ((x).2.2.2.map D7)] := by
     rw [List.getElem?_map, List.append_assoc, List.getElem?_append_right (Nat.le_refl _), Nat.sub_self]; rfl
    have hset : ((K ++ x :: st' ++ l.drop j).map U4).set K.length [.v (.string (D6 (s).1)), .v (.int .i64 (s).2.1), .v (.int .i64 (s).2.2.1), .sl 2 ((s).2.2.2.map D7)] = (((K ++ [s]) ++ (st' ++ [s])) ++ l.drop (j + 1)).map U4 := by
     rw [show [T.v (.string (D6 (s).1)), T.v (.int .i64 (s).2.1), T.v (.int .i64 (s).2.2.1), T.sl 2 ((s).2.2.2.map D7)] = U4 s from rfl, ← List.map_set, List.append_assoc, List.cons_append, C8w K x (st' ++ l.drop j) s K.length rfl, hdj]
     simp
    simp only [go_sem, hgx, ib2, hset, e2, ei]
    refine C3 (j + 1, st' ++ [s]) (by simp only; omega) ⟨by simp only; omega, by simp, by simp only [hsucc]; simp at hjl ⊢; omega⟩ ?_
    simp only [hsucc, List.length_append, List.length_singleton]
    exact (sR [] [])
  ·obtain rfl : j = l.length := by omega
   have d2 : decide (l.length < l.length) = false := decide_eq_false (by omega)
   rw [List.take_length] at hjl
   simp only [List.take_length, List.drop_length, List.append_nil]
   have hKl : (A03 p l).length ≤ l.length := by rw [List.length_append] at hjl; omega
   generalize hK : A03 p l = K at *
   have hk1 : (0 : Int) ≤ (K.length : Int) := by omega
   have hk2 : (K.length : Int) ≤ (l.length : Int) := by omega
   have eN : ((l.length : Int) - (K.length : Int)).toNat = l.length - K.length := by omega
   have hlen : ((K ++ st).map U4).length = l.length := by simpa using hjl
   have hle2 : K.length + (l.length - K.length) ≤ l.length := by omega
   have hfin : List.take K.length ((K ++ st).map U4) ++ List.replicate (l.length - K.length) [T.v (.string (bs [])), T.v (.int .i64 0), T.v (.int .i64 0), T.v (.slice none 0 0)] ++ List.drop (K.length + (l.length - K.length)) ((K ++ st).map U4) = K.map U4 ++ List.replicate (l.length - K.length) [T.v (.string (bs [])), T.v (.int .i64 0), T.v (.int .i64 0), T.v (.slice none 0 0)] := by
    rw [List.drop_eq_nil_of_le (by rw [hlen]; omega), List.map_append, List.take_append_of_le_length (by simp), List.take_of_length_le (by simp), List.append_nil]
   simp only [go_sem, d2, hk1, hk2, eN, hlen, hle2, hfin]
   refine wO [] [] ?_
   simp only [go_sem, I6, exists_eq_left', Option.some.injEq]
   simp [G1, G2, B1, AV.asOwn, B3, A9, AV.isNil, J8, B6, B4, B8, ren]

theorem C3p (w : Nat) (c0 c1 : List T) (q : F4 → Bool) (s : F4) (hw : Meets Tryz.prog E0 w ([B24 s] ++ [.ptr 2 0, .ptr 3 0]) [(2, .box (c0.map .t)), (3, .box (c1.map .t))] (Bo (q s)) [(2, .box (c0.map .t)), (3, .box (c1.map .t))]) :
  Meets Tryz.prog E0 A44 ([(.ag [Q5 (D6 (s).1), I (s).2.1, I (s).2.2.1, M6 (s).2.2.2])] ++ [.ptr 1 0]) [(1, .box [.fn w [] [.ptr 2 0, .ptr 3 0]]), (2, .box (c0.map .t)), (3, .box (c1.map .t))] (Bo (!q s)) [(1, .box [.fn w [] [.ptr 2 0, .ptr 3 0]]), (2, .box (c0.map .t)), (3, .box (c1.map .t))] := by
 simp only [List.singleton_append]
 refine C2z (by simp) (C2 (by simp [B5, AV.ids, A4]) (by simp [Ob.live, Ob.ids, A4, B5, AV.ids])) (C2 (by simp [B5, AV.ids, A4]) (by simp [Ob.live, Ob.ids, A4, B5, AV.ids])) (by simp [A4]) (by simp [A4]) ?_
 simp only [go_sem, B44]
 refine A76 (hw) (by simp [A4, A9]) (by simp [A4]) (by simp [A4]) ?_
 simp only [go_sem]
 refine wO [] [] ?_
 simp only [go_sem, B3z, exists_eq_left', Option.some.injEq]
 simp [G1, G2, B1, AV.asOwn, B3, A9, AV.isNil, J8, B6, B4, B8]

theorem D8f (g w : Nat) (c0 c1 : List T) : Meets Tryz.prog E0 F2 [.t (.sl 4 []), .fn g [] [.ptr 1 0]] [(1, .box [.fn w [] [.ptr 2 0, .ptr 3 0]]), (2, .box (c0.map .t)), (3, .box (c1.map .t))] (I (-1)) [(1, .box [.fn w [] [.ptr 2 0, .ptr 3 0]]), (2, .box (c0.map .t)), (3, .box (c1.map .t))] := by
 refine N6 (by simp) (C2 (by simp [B5, AV.ids, A4]) (by simp [Ob.live, Ob.ids, A4, B5, AV.ids])) (C2 (by simp [B5, AV.ids, A4]) (by simp [Ob.live, Ob.ids, A4, B5, AV.ids])) (by simp [A4]) (by simp [A4]) ?_
 simp only [go_sem, J0]
 refine C8 (fun _ : Nat => 0) (fun i => i = 0)
  (fun i => [(0, .t (.sl 4 [])), (1, .fn g [] [.ptr 1 0]), (7, I i), (8, I i)])
  (fun i => [(1, .box [.fn w [] [.ptr 2 0, .ptr 3 0]]), (2, .box (c0.map .t)), (3, .box (c1.map .t))]) 0 rfl (sR [] []) ?_
 rintro i rfl
 have d0 : decide (((0 : Nat) : Int) < ((0 : Nat) : Int)) = false := rfl
 simp only [go_sem, d0]
 refine wO [] [] ?_
 simp only [go_sem, F1, exists_eq_left', Option.some.injEq]
 simp [G1, G2, B1, AV.asOwn, B3, A9, AV.isNil, J8, B6, B4, B8]

theorem D7p (g w : Nat) (c0 c1 : List T) : Meets Tryz.prog E0 I4 [.t (.sl 4 []), .fn g [] [.ptr 1 0]] [(1, .box [.fn w [] [.ptr 2 0, .ptr 3 0]]), (2, .box (c0.map .t)), (3, .box (c1.map .t))] (.t (.sl 4 [])) [(1, .box [.fn w [] [.ptr 2 0, .ptr 3 0]]), (2, .box (c0.map .t)), (3, .box (c1.map .t))] := by
 have bI := D8f g w c0 c1
 refine T4 (by simp) (C2 (by simp [B5, AV.ids, A4]) (by simp [Ob.live, Ob.ids, A4, B5, AV.ids])) (C2 (by simp [B5, AV.ids, A4]) (by simp [Ob.live, Ob.ids, A4, B5, AV.ids])) (by simp [A4]) (by simp [A4]) ?_
 simp only [go_sem, I5]
 refine oB (bI) ?_
 have d1 : decide ((-1 : Int) = -1) = true := rfl
 simp only [go_sem, d1]
 refine wO [] [] ?_
 simp only [go_sem, I6, exists_eq_left', Option.some.injEq]
 simp [G1, G2, B1, AV.asOwn, B3, A9, AV.isNil, J8, B6, B4, B8, ren]

theorem D5r (q : F4 → Bool) (l : List F4) : A03 (fun s => !q s) l = l.filter q := by
 unfold A03; congr 1; funext n; rw [Bool.not_not]

theorem B8f (f : Nat → Nat) (c : List T) : A1y f (c.map .t) = c.map .t := by
 induction c with
 | nil => rfl
 | cons x c ih => simp only [List.map_cons, A1y, A0z, ih]

def D59 : Nat → Nat
 | 0 => 700
 | 1 => 100
 | n => n

theorem B1m (w : Nat) (c0 c1 : List T) (q : F4 → Bool) (l : List F4) (hl : l.length ≤ 100000) (hw : ∀ s ∈ l, Meets Tryz.prog E0 w ([B24 s] ++ [.ptr 2 0, .ptr 3 0]) [(2, .box (c0.map .t)), (3, .box (c1.map .t))] (Bo (q s)) [(2, .box (c0.map .t)), (3, .box (c1.map .t))]) :
  Meets Tryz.prog E0 A3u [A0e l, .fn w [] [.ptr 2 0, .ptr 3 0]] [(2, .box (c0.map .t)), (3, .box (c1.map .t))] (A0e (l.filter q)) [(2, .box (c0.map .t)), (3, .box (c1.map .t))] := by
 refine C6b (by simp) (C2 (by simp [B5, AV.ids, A4]) (by simp [Ob.live, Ob.ids, A4, B5, AV.ids])) (C2 (by simp [B5, AV.ids, A4]) (by simp [Ob.live, Ob.ids, A4, B5, AV.ids])) (by simp [A4]) (by simp [A4]) ?_
 cases l with
 | nil =>
  have hd := (D7p A44 w c0 c1).ren D59 (by simp [A4, D59])
  simp only [A1y, A0z, A6i, A6v, B8f, D59] at hd
  simp only [go_sem, B0v]
  refine A6 A57 ?_
  simp only [go_sem]
  refine oB (hd) ?_
  simp only [go_sem]
  refine wO [] [] ?_
  simp only [go_sem, B1h, exists_eq_left', Option.some.injEq]
  simp [G1, G2, B1, AV.asOwn, B3, A9, AV.isNil, J8, B6, B4, B8, ren]
 | cons a l =>
  have hc := A7w 700 (U4 a) (l.map U4) (by simp at hl ⊢; omega)
  have hd := (D8a A44 w c0 c1 (fun s => !q s) (a :: l) hl (fun s hs => C3p w c0 c1 q s (hw s hs))).ren D59 (by simp [A4, D59])
  simp only [A1y, A0z, A6i, A6v, B8f, D59] at hd
  rw [List.length_map] at hc
  rw [D5r] at hd
  have hle : ((a :: l).filter q).length ≤ l.length + 1 := List.length_filter_le _ _
  simp only [List.map_cons, List.length_cons] at hd ⊢
  generalize (a :: l).filter q = k at *
  simp only [go_sem, B0v]
  refine C18 hc (by simp [A4, A9]) (by simp [A4]) ?_
  simp only [go_sem]
  refine oB (hd) ?_
  simp only [go_sem]
  refine wO [] [700] ?_
  simp only [go_sem, B1h, exists_eq_left', Option.some.injEq]
  simp [G1, G2, B1, AV.asOwn, B3, A9, AV.isNil, J8, B6, B4, B8, ren]

def q1M (call : List UInt8) (x : Num) (s : F4) : Bool := decide (0 < D3h (Y8 (T6 (A2k call) s.2.2.2).isNone ((T6 (A2k call) s.2.2.2).getD 0)) (Y8 x.1 x.2))
def q2M (call : List UInt8) (x : Num) (s : F4) : Bool := !(T6 (A2k call) s.2.2.2).isNone && decide (D3h (Y8 (T6 (A2k call) s.2.2.2).isNone ((T6 (A2k call) s.2.2.2).getD 0)) (Y8 x.1 x.2) < 0)

theorem B8s (call : List UInt8) (hc : call.length ≤ 1000000000) (x : Num) (a : List Num) (s : F4) (hs : s.2.2.2.length ≤ 100000) (h : inS s) :
  Meets Tryz.prog E0 A4r ([B24 s] ++ [.ptr 2 0, .ptr 3 0]) [(2, .box ([T.v (.string (D6 call))].map .t)), (3, .box ([T.sl 2 ((x :: a).map D7)].map .t))] (Bo (q1M call x s)) [(2, .box ([T.v (.string (D6 call))].map .t)), (3, .box ([T.sl 2 ((x :: a).map D7)].map .t))] := by
 simp only [List.singleton_append, List.map_cons, List.map_nil]
 have hM := A5s call hc s hs h
 have hC := A9q (T6 (A2k call) s.2.2.2).isNone x.1 ((T6 (A2k call) s.2.2.2).getD 0) x.2
 have hx : D7 x = [.v (.bool x.1), .v (.int .i64 x.2)] := rfl
 unfold q1M
 refine B8m (by simp) (C2 (by simp [B5, AV.ids, A4]) (by simp [Ob.live, Ob.ids, A4, B5, AV.ids])) (C2 (by simp [B5, AV.ids, A4]) (by simp [Ob.live, Ob.ids, A4, B5, AV.ids])) (by simp [A4]) (by simp [A4]) ?_
 simp only [go_sem, B0n]
 refine A6 hM ?_
 simp only [go_sem, hx]
 refine A6 hC ?_
 simp only [go_sem]
 ((try (with_reducible refine rF ?_)); (try simp only [go_sem]))
 refine wO [] [] ?_
 simp only [go_sem, B0k, exists_eq_left', Option.some.injEq]
 simp [G1, G2, B1, AV.asOwn, B3, A9, AV.isNil, J8, B6, B4, B8]

theorem C01 (call : List UInt8) (hc : call.length ≤ 1000000000) (x : Num) (a : List Num) (s : F4) (hs : s.2.2.2.length ≤ 100000) (h : inS s) :
  Meets Tryz.prog E0 A4t ([B24 s] ++ [.ptr 2 0, .ptr 3 0]) [(2, .box ([T.v (.string (D6 call))].map .t)), (3, .box ([T.sl 2 ((x :: a).map D7)].map .t))] (Bo (q2M call x s)) [(2, .box ([T.v (.string (D6 call))].map .t)), (3, .box ([T.sl 2 ((x :: a).map D7)].map .t))] := by
 simp only [List.singleton_append, List.map_cons, List.map_nil]
 have hM := A5s call hc s hs h
 have hC := A9q (T6 (A2k call) s.2.2.2).isNone x.1 ((T6 (A2k call) s.2.2.2).getD 0) x.2
 have hx : D7 x = [.v (.bool x.1), .v (.int .i64 x.2)] := rfl
 unfold q2M
 generalize T6 (A2k call) s.2.2.2 = o at *
 refine C0r (by simp) (C2 (by simp [B5, AV.ids, A4]) (by simp [Ob.live, Ob.ids, A4, B5, AV.ids])) (C2 (by simp [B5, AV.ids, A4]) (by simp [Ob.live, Ob.ids, A4, B5, AV.ids])) (by simp [A4]) (by simp [A4]) ?_
 simp only [go_sem, B0g]
 refine A6 hM ?_
 cases o with
 | none =>
  simp only [go_sem, Option.isNone_none]
  ((try (with_reducible refine rF ?_)); (try simp only [go_sem]))
  refine wO [] [] ?_
  simp only [go_sem, A54, exists_eq_left', Option.some.injEq]
  simp [G1, G2, B1, AV.asOwn, B3, A9, AV.isNil, J8, B6, B4, B8]
 | some v =>
  simp only [Option.isNone_some, Option.getD_some] at hC ⊢
  simp only [go_sem, hx]
  refine A6 hC ?_
  simp only [go_sem]
  ((try (with_reducible refine rF ?_)); (try simp only [go_sem]))
  refine wO [] [] ?_
  simp only [go_sem, A54, exists_eq_left', Option.some.injEq]
  simp [G1, G2, B1, AV.asOwn, B3, A9, AV.isNil, J8, B6, B4, B8]

theorem C84 (c : UInt8) : ∀ l : List UInt8, (∀ x ∈ l, x ≠ c) → U2 c l = [l]
 | [], _ => rfl
 | x :: l, h => by
  unfold U2
  rw [if_neg (h x (by simp)), C84 c l (fun y hy => h y (by simp [hy]))]

theorem C7g (c : UInt8) (b : List UInt8) : ∀ a : List UInt8, (∀ x ∈ a, x ≠ c) → U2 c (a ++ c :: b) = a :: U2 c b
 | [], _ => by rw [List.nil_append, U2, if_pos rfl]
 | x :: a, h => by
  rw [List.cons_append, U2, if_neg (h x (by simp)), C7g c b a (fun y hy => h y (by simp [hy]))]

def Z3 (l : List UInt8) (n : Nat) : List UInt8 := ((U2 46 l)[n]?).getD []

/-- What stands between two places. -/
def B6q (l : List UInt8) (f i : Nat) : List UInt8 := (l.drop f).take (i - f)

theorem D4b (l : List UInt8) (f : Nat) : B6q l f l.length = l.drop f := by
 unfold B6q
 rw [List.take_of_length_le (by simp)]

theorem D0e (l : List UInt8) (f : Nat) : B6q l f f = [] := by unfold B6q; simp

theorem D75 {l : List UInt8} {f i : Nat} {x : UInt8} (hf : f ≤ i) (hx : l[i]? = some x) : B6q l f (i + 1) = B6q l f i ++ [x] := by
 unfold B6q
 rw [show i + 1 - f = (i - f) + 1 by omega, List.take_add_one, List.getElem?_drop, show f + (i - f) = i by omega, hx]
 rfl

theorem D57 {l : List UInt8} {f i : Nat} {x : UInt8} (hf : f ≤ i) (hx : l[i]? = some x) : l.drop f = B6q l f i ++ x :: l.drop (i + 1) := by
 unfold B6q
 have hd : l.drop i = x :: l.drop (i + 1) := A05 hx
 have h := List.take_append_drop (i - f) (l.drop f)
 rw [List.drop_drop, show f + (i - f) = i by omega] at h
 rw [← hd, h]

theorem C6v (l : List UInt8) (n : Nat) (hl : l.length ≤ 100000) (hn : n ≤ 1099511627776) : Meets Tryz.prog E0 B1o [Q5 (D6 l), I n] [] (Q5 (D6 (Z3 l n))) [] := by
 refine X6 C6c ?_
 simp only [go_sem, B71]
 refine C8 (fun x : Nat × Nat × Nat × List (List UInt8) => l.length + 1 - x.1)
  (fun x => x.1 ≤ l.length + 1 ∧ x.2.1 ≤ n ∧ x.2.2.2.length = x.2.1 ∧ ((x.1 = l.length + 1 ∧ U2 46 l = x.2.2.2) ∨ (x.1 ≤ l.length ∧ x.2.2.1 ≤ x.1 ∧ (∀ b ∈ B6q l x.2.2.1 x.1, b ≠ 46) ∧ U2 46 l = x.2.2.2 ++ U2 46 (l.drop x.2.2.1))))
  (fun x => [(0, Q5 (D6 l)), (1, I n), (5, I x.2.2.1), (6, I x.2.1), (7, I x.1)]) (fun _ => []) (0, 0, 0, [])
  ⟨by simp, by simp, rfl, Or.inr ⟨by simp, by simp, by simp [D0e], by simp⟩⟩ (sR [] []) ?_
 rintro ⟨i, k, f, P⟩ ⟨hi, hk, hP, hc⟩
 simp only at hi hk hP hc
 rcases hc with ⟨rfl, hp⟩ | ⟨hil, hf, hno, hp⟩
 ·have d0 : decide (l.length + 1 ≤ l.length) = false := decide_eq_false (by omega)
  have e : Z3 l n = [] := by unfold Z3; rw [hp, List.getElem?_eq_none (by omega)]; rfl
  rw [e]
  simp only [go_sem, C9, d0]
  refine wE ?_
  simp only [go_sem, A69]
  rfl
 ·have d0 : decide (i ≤ l.length) = true := decide_eq_true hil
  have ei : IntKind.i64.wrap ((i : Int) + 1) = ((i + 1 : Nat) : Int) := by rw [A5 (by omega) (by omega)]; omega
  have ek : IntKind.i64.wrap ((k : Int) + 1) = ((k + 1 : Nat) : Int) := by rw [A5 (by omega) (by omega)]; omega
  by_cases he : i = l.length
  ·have d1 : decide (i = l.length) = true := decide_eq_true he
   subst he
   rw [D4b] at hno
   have hp2 : U2 46 l = P ++ [l.drop f] := by rw [hp, C84 46 _ hno]
   cases hkn : decide (k = n)
   ·have hkn' := of_decide_eq_false hkn
    simp only [go_sem, C9, d0, d1, hkn, ei, ek]
    exact C3 (l.length + 1, k + 1, l.length + 1, P ++ [l.drop f]) (by simp only; omega) ⟨by simp, by simp only; omega, by simp [hP], Or.inl ⟨rfl, hp2⟩⟩ (sR [] [])
   ·have hkn' := of_decide_eq_true hkn
    have e : Z3 l n = B6q l f l.length := by unfold Z3; rw [hp2, D4b, List.getElem?_append_right (by omega), show n - P.length = 0 by omega]; rfl
    have c1 : ((f : Int) ≤ (l.length : Int)) = True := eq_true (by omega)
    have ex : (D6 l).extract f l.length = D6 (B6q l f l.length) := by rw [E2d, List.drop_take]; rfl
    rw [e]
    simp only [go_sem, C9, d0, d1, hkn, c1, ex]
    refine wE ?_
    simp only [go_sem, A69]
  ·have d1 : decide (i = l.length) = false := decide_eq_false he
   obtain ⟨b, hb⟩ := F0 (show i < l.length by omega)
   have hil2 : i < l.length := by omega
   have hg : (D6 l)[i]? = some b := by rw [E2w, hb]
   have hsp := D57 hf hb
   cases h46 : decide (b = 46)
   ·have h46' := of_decide_eq_false h46
    have d2 : decide (b.toNat = 46) = false := decide_eq_false (fun e => h46' (UInt8.toNat_inj.1 e))
    simp only [go_sem, C9, d0, d1, hg, d2, ei]
    refine C3 (i + 1, k, f, P) (by simp only; omega) ⟨by simp only; omega, hk, hP, Or.inr ⟨hil2, by simp only; omega, ?_, hp⟩⟩ (sR [] [])
    intro c hc
    simp only at hc
    rw [D75 hf hb, List.mem_append] at hc
    rcases hc with hc | hc
    ·exact hno c hc
    ·obtain rfl : c = b := by simpa using hc
     exact h46'
   ·obtain rfl := of_decide_eq_true h46
    have d2 : decide ((46 : UInt8).toNat = 46) = true := rfl
    have hp2 : U2 46 l = P ++ B6q l f i :: U2 46 (l.drop (i + 1)) := by rw [hp, hsp, C7g 46 _ _ hno]
    cases hkn : decide (k = n)
    ·have hkn' := of_decide_eq_false hkn
     simp only [go_sem, C9, d0, d1, hg, d2, hkn, ei, ek]
     exact C3 (i + 1, k + 1, i + 1, P ++ [B6q l f i]) (by simp only; omega) ⟨by simp only; omega, by simp only; omega, by simp [hP], Or.inr ⟨hil2, Nat.le_refl _, by simp [D0e], by simp [hp2]⟩⟩ (sR [] [])
    ·have hkn' := of_decide_eq_true hkn
     have e : Z3 l n = B6q l f i := by unfold Z3; rw [hp2, List.getElem?_append_right (by omega), show n - P.length = 0 by omega]; rfl
     have c1 : ((f : Int) ≤ (i : Int)) = True := eq_true (by omega)
     have c2 : ((i : Int) ≤ (l.length : Int)) = True := eq_true (by omega)
     have ex : (D6 l).extract f i = D6 (B6q l f i) := by rw [E2d, List.drop_take]; rfl
     rw [e]
     simp only [go_sem, C9, d0, d1, hg, d2, hkn, c1, c2, ex]
     refine wE ?_
     simp only [go_sem, A69]

theorem C8j (s : F4) (hs : s.2.2.2.length ≤ 100000) : Meets Tryz.prog E0 B39 [B24 s] [] (B24 s) [] := by
 refine X6 C9y ?_
 have hz : (s.2.2.2.map D7).length = s.2.2.2.length := by simp
 have b1 : (s.2.2.2.length) * 16 ≤ 2 ^ 47 := by omega
 have b2 : s.2.2.2.length < 2 ^ 47 := by omega
 simp only [go_sem, C0e, hz, b1, b2]
 refine wS [105] ?_
 simp only [go_sem, B8n, exists_eq_left', Option.some.injEq]
 simp [G1, G2, B1, AV.asOwn, B3, A9, AV.isNil, J8, B6, B4, B8, hz, List.take_of_length_le]

theorem C00 (tx : List UInt8) (s : F4) : Meets Tryz.prog E0 A4v ([B24 s] ++ [.ptr 2 0]) [(2, .box ([T.v (.string (D6 tx))].map .t))] (Q5 (D6 tx)) [(2, .box ([T.v (.string (D6 tx))].map .t))] := by
 simp only [List.singleton_append, List.map_cons, List.map_nil]
 refine B9u (by simp) (C2 (by simp [B5, AV.ids, A4]) (by simp [Ob.live, Ob.ids, A4, B5, AV.ids])) (C2 (by simp [B5, AV.ids, A4]) (by simp [Ob.live, Ob.ids, A4, B5, AV.ids])) (by simp [A4]) (by simp [A4]) ?_
 simp only [go_sem, B09]
 refine wO [] [] ?_
 simp only [go_sem, B08, exists_eq_left', Option.some.injEq]
 simp [G1, G2, B1, AV.asOwn, B3, A9, AV.isNil, J8, B6, B4, B8]

def B20 (f : F4 → List UInt8) (s : F4) : F4 := (f s, s.2)

/-- Renamed, if no name is too long. -/
def B9x (f : F4 → List UInt8) (l : List F4) : AV := .tp [A0e (if l.all (fun s => decide ((f s).length ≤ 400)) = true then l.map (B20 f) else []), I (if l.all (fun s => decide ((f s).length ≤ 400)) = true then 0 else 20)]

theorem B1r (w : Nat) (c0 : List T) (f : F4 → List UInt8) (l : List F4) (hl : l.length ≤ 100000) (hw : ∀ s ∈ l, Meets Tryz.prog E0 w ([B24 s] ++ [.ptr 2 0]) [(2, .box (c0.map .t))] (Q5 (D6 (f s))) [(2, .box (c0.map .t))]) :
  Meets Tryz.prog E0 A37 [A0e l, .fn w [] [.ptr 2 0]] [(2, .box (c0.map .t))] (B9x f l) [(2, .box (c0.map .t))] := by
 unfold B9x
 refine C1t (by simp) (C2 (by simp [B5, AV.ids, A4]) (by simp [Ob.live, Ob.ids, A4, B5, AV.ids])) (C2 (by simp [B5, AV.ids, A4]) (by simp [Ob.live, Ob.ids, A4, B5, AV.ids])) (by simp [A4]) (by simp [A4]) ?_
 by_cases hne : l = []
 ·subst hne
  simp only [go_sem, A5q]
  refine A6 A57 ?_
  simp only [go_sem]
  refine C8 (fun _ : Nat => 0) (fun i => i = 0)
   (fun i => [(1, .fn w [] [.ptr 2 0]), (6, .t (.sl 4 [])), (11, I i), (12, I i)])
   (fun i => [(2, .box (c0.map .t))]) 0 rfl (sR [] []) ?_
  rintro i rfl
  have d0 : decide (((0 : Nat) : Int) < ((0 : Nat) : Int)) = false := rfl
  simp only [go_sem, d0]
  refine wO [] [] ?_
  simp only [go_sem, A3f, exists_eq_left', Option.some.injEq]
  simp [G1, G2, B1, AV.asOwn, B3, A9, AV.isNil, J8, B6, B4, B8]
 ·have hc : Meets Tryz.prog E0 C7 [.t (.sl 4 (l.map U4))] [] (.own 700 4 0 l.length true) [(700, .row 4 true (l.map U4))] := by
   cases l with
   | nil => exact absurd rfl hne
   | cons a l =>
    have hc := A7w 700 (U4 a) (l.map U4) (by simp at hl ⊢; omega)
    rw [List.length_map] at hc
    exact hc
  simp only [go_sem, A5q]
  refine C18 hc (by simp [A4, A9]) (by simp [A4]) ?_
  simp only [go_sem]
  refine C8 (fun i : Nat => l.length - i) (fun i => i ≤ l.length ∧ (l.take i).all (fun s => decide ((f s).length ≤ 400)) = true)
   (fun i => [(1, .fn w [] [.ptr 2 0]), (6, .own 700 4 0 l.length true), (11, I l.length), (12, I i)])
   (fun i => [(700, .row 4 true (((l.take i).map (B20 f) ++ l.drop i).map U4)), (2, .box (c0.map .t))]) 0 ⟨Nat.zero_le _, rfl⟩ ?_ ?_
  ·simp only [List.take_zero, List.map_nil, List.nil_append, List.drop_zero]
   exact (sR [] [])
  rintro i ⟨hi, hall⟩
  by_cases hil : i < l.length
  ·have d0 : decide (i < l.length) = true := decide_eq_true hil
   have ib : (i : Int) < (l.length : Int) := by omega
   obtain ⟨x, hx⟩ := F0 hil
   have hdj := A05 hx
   have htl : ((l.take i).map (B20 f)).length = i := by rw [List.length_map, List.length_take]; omega
   have ei : IntKind.i64.wrap ((i : Int) + 1) = ((i + 1 : Nat) : Int) := by rw [A5 (by omega) (by omega)]; omega
   have hgx : (((l.take i).map (B20 f) ++ l.drop i).map U4)[i]? = some [.v (.string (D6 x.1)), .v (.int .i64 x.2.1), .v (.int .i64 x.2.2.1), .sl 2 (x.2.2.2.map D7)] := by
    rw [List.getElem?_map, List.getElem?_append_right (by omega), htl, Nat.sub_self, hdj]; rfl
   have hxw := hw x (List.mem_of_getElem? hx)
   simp only [go_sem, d0, ib, hgx]
   refine A76 (hxw) (by simp [A4, A9]) (by simp [A4]) (by simp [A4]) ?_
   have hset : (((l.take i).map (B20 f) ++ l.drop i).map U4).set i [.v (.string (D6 (f x))), .v (.int .i64 x.2.1), .v (.int .i64 x.2.2.1), .sl 2 (x.2.2.2.map D7)] = ((l.take (i + 1)).map (B20 f) ++ l.drop (i + 1)).map U4 := by
    rw [show [T.v (.string (D6 (f x))), T.v (.int .i64 x.2.1), T.v (.int .i64 x.2.2.1), T.sl 2 (x.2.2.2.map D7)] = U4 (B20 f x) from rfl, ← List.map_set, hdj, C8w _ x _ (B20 f x) i htl, List.take_add_one, hx]
    simp
   have hgy : (((l.take (i + 1)).map (B20 f) ++ l.drop (i + 1)).map U4)[i]? = some [.v (.string (D6 (f x))), .v (.int .i64 x.2.1), .v (.int .i64 x.2.2.1), .sl 2 (x.2.2.2.map D7)] := by
    rw [← hset, List.getElem?_set_self (by rw [List.length_map, List.length_append, htl, List.length_drop]; omega)]
   cases h4 : decide ((400 : Int) < ((f x).length : Int))
   ·have h4' : (f x).length ≤ 400 := by have := of_decide_eq_false h4; omega
    have h5 : decide (400 < (f x).length) = false := decide_eq_false (by omega)
    simp only [go_sem, d0, ib, hgx, hset, hgy, C9, h4, h5, ei]
    exact C3 (i + 1) (by first | omega | (simp only; omega)) ⟨by omega, B5l hx hall (decide_eq_true h4')⟩ (sR [] [])
   ·have h4' : ¬ (f x).length ≤ 400 := by have := of_decide_eq_true h4; omega
    have h5 : decide (400 < (f x).length) = true := decide_eq_true (by omega)
    rw [C4y hx (p := fun s => decide ((f s).length ≤ 400)) (decide_eq_false h4')]
    simp only [go_sem, d0, ib, hgx, hset, hgy, C9, h4, h5]
    refine wO [] [] ?_
    simp only [go_sem, A3f, exists_eq_left', Option.some.injEq]
    simp [G1, G2, B1, AV.asOwn, B3, A9, AV.isNil, J8, B6, B4, B8]
  ·obtain rfl : i = l.length := by omega
   have d0 : decide (l.length < l.length) = false := decide_eq_false (by omega)
   rw [List.take_length] at hall
   simp only [List.take_length, List.drop_length, List.append_nil]
   rw [hall, if_pos rfl, if_pos rfl]
   simp only [go_sem, d0]
   refine wO [] [700] ?_
   simp only [go_sem, A3f, exists_eq_left', Option.some.injEq]
   simp [G1, G2, B1, AV.asOwn, B3, A9, AV.isNil, J8, B6, B4, B8, List.take_of_length_le]

def A8g (n : Num) : Nat := (n.2 / 1000000).toNat
def V8 (l : List UInt8) (a : List Num) : List UInt8 := Lib.join (a.map fun n => Z3 l (A8g n)) [46]

theorem D7b (l : List UInt8) (k : Nat) : (A10 (D6 l))[k]? = (if k < (A10 (D6 l)).length then some (D6 (Z3 l k)) else none) := by
 by_cases h : k < (A10 (D6 l)).length
 ·rw [if_pos h, List.getElem?_eq_getElem h]
  congr 1
  apply B6h
  have e := B2x (D6 l)
  have e2 := congrArg (fun x => x[k]?) e
  simp only [List.getElem?_map, List.getElem?_eq_getElem h, Option.map_some, X2] at e2
  rw [X2, Z3, ← e2]
  rfl
 ·rw [if_neg h, List.getElem?_eq_none (by omega)]

theorem D3n (l : List UInt8) (k : Nat) (h : (A10 (D6 l)).length ≤ k) : Z3 l k = [] := by
 have e := congrArg List.length (B2x (D6 l))
 rw [List.length_map, X2] at e
 unfold Z3
 rw [List.getElem?_eq_none (by omega)]
 rfl

theorem C1f (l : List UInt8) (k : Nat) : (Z3 l k).length ≤ l.length := by
 unfold Z3
 rcases Nat.lt_or_ge k (U2 46 l).length with h | h
 ·rw [List.getElem?_eq_getElem h]
  exact (C22 46 l).2 _ (List.getElem_mem h)
 ·rw [List.getElem?_eq_none h]; simp

theorem E0p (xs : List (List UInt8)) (B : Nat) (h : ∀ x ∈ xs, x.length ≤ B) : Lib.lens xs ≤ xs.length * B := by
 induction xs with
 | nil => simp [Lib.lens]
 | cons x xs ih =>
  have h1 := h x (by simp)
  have h2 := ih (fun y hy => h y (by simp [hy]))
  simp only [Lib.lens, List.map_cons, List.sum_cons, List.length_cons] at h2 ⊢
  rw [Nat.add_mul]; omega

theorem D4v (xs : List (List UInt8)) (B : Nat) (h : ∀ x ∈ xs, x.length ≤ B) : (Lib.join xs [46]).length ≤ xs.length * (B + 1) := by
 cases xs with
 | nil => simp [Lib.join_nil]
 | cons x r =>
  have := E0p (x :: r) B h
  rw [Lib.join_length]
  simp only [List.length_cons, List.length_nil] at this ⊢
  rw [Nat.mul_add]; omega

def B9c (l : List UInt8) (n : Num) : List T := C78 (D6 (Z3 l (A8g n)))

theorem C3o (l : List UInt8) (a : List Num) (hl : l.length ≤ 100000) (ha : a.length ≤ 100000) (h : a.all P0 = true) (hne : a ≠ []) : Meets Tryz.prog E0 A7g [Q5 (D6 l), .t (.sl 1 (a.map W6))] [] (Q5 (D6 (V8 l a))) [] := by
 have hS := C3j (D6 l) (by rw [C9]; omega)
 have hml : ∀ x ∈ (a.map fun n => D6 (Z3 l (A8g n))).map (·.data.toList), x.length ≤ 100000 := by
  intro x hx
  simp only [List.mem_map] at hx
  obtain ⟨_, ⟨n, _, rfl⟩, rfl⟩ := hx
  have := C1f l (A8g n)
  rw [X2]; omega
 have hjl := D4v _ 100000 hml
 simp only [List.length_map] at hjl
 have hJ := E1p (a.map fun n => D6 (Z3 l (A8g n))) (bs [46]) (by rw [List.length_map]; omega) (by show (Lib.join _ [46]).length ≤ _; exact Nat.le_trans hjl (by omega))
 have eJ : D4e (a.map fun n => D6 (Z3 l (A8g n))) (bs [46]) = D6 (V8 l a) := by
  unfold D4e V8
  rw [List.map_map]; rfl
 rw [eJ] at hJ
 have hps := B7m (D6 l)
 have hpl : (A10 (D6 l)).length ≤ 100001 := by
  have := congrArg List.length (B2x (D6 l))
  have h2 := (C22 46 l).1
  rw [List.length_map, X2] at this
  omega
 have hpc := D7b l
 have hpn := D3n l
 have hk : ((A10 (D6 l)).map C78).length = (A10 (D6 l)).length := List.length_map ..
 clear hps hjl hml eJ
 refine X6 C3e ?_
 have hz : (a.map W6).length = a.length := by simp
 simp only [go_sem, A7j]
 refine A6 hS ?_
 generalize A10 (D6 l) = ps at *
 simp only [go_sem, A7j, hz]
 refine C8 (fun i : Nat => a.length - i) (fun i => i ≤ a.length)
  (fun i => [(5, .t (.sl 1 (ps.map C78))), (6, .own 999 1 0 i (decide (0 < i))), (11, .t (.sl 1 (a.map W6))), (12, I a.length), (13, I i)])
  (fun i => [(999, .row 1 (decide (0 < i)) ((a.take i).map (B9c l)))]) 0 (Nat.zero_le _) ?_ ?_
 ·simp only [List.take_zero, List.map_nil, Nat.lt_irrefl, decide_false]
  exact (sR [(999, 888)] [])
 rintro i hi
 have htl : ((a.take i).map (B9c l)).length = i := by rw [List.length_map, List.length_take]; omega
 have ht2 : (a.take i).length = i := by rw [List.length_take]; omega
 have ht3 : (i = (a.take i).length) = True := eq_true ht2.symm
 by_cases hil : i < a.length
 ·have d0 : decide (i < a.length) = true := decide_eq_true hil
  obtain ⟨n, hn⟩ := F0 hil
  have hv := List.all_eq_true.1 h n (List.mem_of_getElem? hn)
  unfold P0 at hv
  simp only [Bool.and_eq_true, decide_eq_true_eq] at hv
  obtain ⟨hv1, hv2, hv3⟩ := hv
  have hg : (a.map W6)[i]? = some [.v (.int .i64 (n.2 / 1000000))] := by rw [List.getElem?_map, hn]; rfl
  have ei : IntKind.i64.wrap ((i : Int) + 1) = ((i + 1 : Nat) : Int) := by rw [A5 (by omega) (by omega)]; omega
  have ek : n.2 / 1000000 = ((A8g n : Nat) : Int) := by unfold A8g; omega
  have b1 : (i + 1) * 16 ≤ 2 ^ 47 := by omega
  have b2 : i + 1 < 2 ^ 47 := by omega
  have di1 : decide (0 < i + 1) = true := decide_eq_true (by omega)
  have tf : (a.take (i + 1)).map (B9c l) = (a.take i).map (B9c l) ++ [B9c l n] := by rw [List.take_add_one, hn, List.map_append]; rfl
  rw [ek] at hg
  cases k1 : decide ((A8g n : Nat) < ps.length)
  ·have k1' := of_decide_eq_false k1
   have ep : B9c l n = [.v (.string (bs []))] := by unfold B9c; rw [hpn _ (by omega)]; rfl
   simp only [go_sem, hz, d0, hg, k1, hk]
   ((try (with_reducible refine rF ?_)); (try simp only [go_sem, hz, d0, hg, k1, hk, b1, b2, ei, htl, ht2, ht3]))
   ((try (with_reducible refine rF ?_)); (try simp only [go_sem, ei]))
   clear b1 b2
   refine C3 (i + 1) (by first | omega | (simp only; omega)) (by omega) ?_
   rw [di1, tf, ep]
   exact (sR [(999, 126)] [])
  ·have k1' := of_decide_eq_true k1
   have hgp : (ps.map C78)[A8g n]? = some [.v (.string (D6 (Z3 l (A8g n))))] := by rw [List.getElem?_map, hpc, if_pos k1']; rfl
   have ep : B9c l n = [.v (.string (D6 (Z3 l (A8g n))))] := rfl
   have c1 : ((A8g n : Int) < (ps.length : Int)) = True := eq_true (by omega)
   simp only [go_sem, hz, d0, hg, k1, hk, hgp, c1]
   ((try (with_reducible refine rF ?_)); (try simp only [go_sem, hz, d0, hg, k1, hk, hgp, c1, b1, b2, ei, htl, ht2, ht3]))
   ((try (with_reducible refine rF ?_)); (try simp only [go_sem, ei]))
   clear b1 b2
   refine C3 (i + 1) (by first | omega | (simp only; omega)) (by omega) ?_
   rw [di1, tf, ep]
   exact (sR [(999, 122)] [])
 ·obtain rfl : i = a.length := by omega
  have d0 : decide (a.length < a.length) = false := decide_eq_false (by omega)
  have hp : decide (0 < a.length) = true := decide_eq_true (List.length_pos_iff.2 hne)
  rw [List.take_length] at htl ⊢
  rw [hp]
  simp only [go_sem, hz, d0]
  refine A11 [999] hJ ?_ (by simp [A9]) ?_
  ·exact .one (Wk.row (by simp [B1, AV.asOwn, B3, A9, Function.comp_def, B9c, List.take_of_length_le]) (by simp)) (.one (Wk.refl _) .nil)
  simp only [go_sem]
  refine wE ?_
  simp only [go_sem, B48, exists_eq_left', Option.some.injEq]

theorem B8y (a : List Num) (s : F4) (hs : s.1.length ≤ 100000) (ha : a.length ≤ 100000) (h : a.all P0 = true) (hne : a ≠ []) : Meets Tryz.prog E0 A5c ([B24 s] ++ [.ptr 2 0]) [(2, .box ([T.sl 1 (a.map W6)].map .t))] (Q5 (D6 (V8 s.1 a))) [(2, .box ([T.sl 1 (a.map W6)].map .t))] := by
 simp only [List.singleton_append, List.map_cons, List.map_nil]
 have hP := C3o s.1 a hs ha h hne
 refine B9j (by simp) (C2 (by simp [B5, AV.ids, A4]) (by simp [Ob.live, Ob.ids, A4, B5, AV.ids])) (C2 (by simp [B5, AV.ids, A4]) (by simp [Ob.live, Ob.ids, A4, B5, AV.ids])) (by simp [A4]) (by simp [A4]) ?_
 simp only [go_sem, B0j]
 refine A6 hP ?_
 simp only [go_sem]
 ((try (with_reducible refine rF ?_)); (try simp only [go_sem]))
 refine wO [] [] ?_
 simp only [go_sem, B04, exists_eq_left', Option.some.injEq]
 simp [G1, G2, B1, AV.asOwn, B3, A9, AV.isNil, J8, B6, B4, B8]

/-- Bytes as the bits of a number; its four words. -/
abbrev I3 (n : Nat) : List AV := [U ((n % 18446744073709551616 : Nat) : Int), U ((n / 18446744073709551616 % 18446744073709551616 : Nat) : Int), U ((n / 340282366920938463463374607431768211456 % 18446744073709551616 : Nat) : Int), U ((n / (18446744073709551616 * 340282366920938463463374607431768211456) % 18446744073709551616 : Nat) : Int)]
abbrev E0a (n : Nat) : AV := .ag (I3 n)
abbrev C8y : Nat := 2 ^ 256 - 1

abbrev R6 := Nat × Bool
abbrev C2i (i : R6) : AV := .ag (I3 i.1 ++ [Bo i.2])
def T9 (i : R6) : List T := [.v (.int .u64 ((i.1 % 18446744073709551616 : Nat) : Int)), .v (.int .u64 ((i.1 / 18446744073709551616 % 18446744073709551616 : Nat) : Int)), .v (.int .u64 ((i.1 / 340282366920938463463374607431768211456 % 18446744073709551616 : Nat) : Int)), .v (.int .u64 ((i.1 / (18446744073709551616 * 340282366920938463463374607431768211456) % 18446744073709551616 : Nat) : Int)), .v (.bool i.2)]
abbrev A5x (l : List R6) : AV := .t (.sl 5 (l.map T9))
abbrev B6l (a b : Bool) (l : List R6) : AV := .ag [Bo a, Bo b, A5x l]

/-- All bytes from one on, so many. -/
def A1j (n b : Nat) : Nat → Nat
 | 0 => n
 | k + 1 => A1j (n ||| 2 ^ b) (b + 1) k

def K0 (b : Nat) : List UInt8 → Bool × List UInt8
 | c :: r => if c.toNat = b then (true, r) else (false, c :: r)
 | [] => (false, [])

def U5 : List UInt8 → Bool
 | d :: h :: _ => d.toNat == 45 && h.toNat != 93
 | _ => false

/-- The rest of a class: the bytes, whether it is one, what is left. -/
def S3 : List UInt8 → Bool → Nat → Nat × Bool × List UInt8
 | [], _, n => (n, false, [])
 | c :: r, m, n => if c.toNat = 93 then (n, m, r) else
  match r with
  | [] => S3 [] true (n ||| 2 ^ c.toNat)
  | [d] => S3 [d] true (n ||| 2 ^ c.toNat)
  | d :: h :: r' => if d.toNat == 45 && h.toNat != 93 then (if h.toNat < c.toNat then (n, false, r') else S3 r' true (A1j n c.toNat (h.toNat + 1 - c.toNat))) else S3 (d :: h :: r') true (n ||| 2 ^ c.toNat)

def D17 (n : Nat) : Nat := C8y - n

def A15 (l : List UInt8) : Nat × Bool × List UInt8 :=
 (if (S3 (K0 94 l).2 false 0).2.1 && (K0 94 l).1 then D17 (S3 (K0 94 l).2 false 0).1 else (S3 (K0 94 l).2 false 0).1, (S3 (K0 94 l).2 false 0).2.1, (S3 (K0 94 l).2 false 0).2.2)

def R2 : List UInt8 → Nat × Bool × List UInt8
 | [] => (0, false, [])
 | c :: r => if c.toNat = 94 ∨ c.toNat = 36 ∨ c.toNat = 42 ∨ c.toNat = 93 then (0, false, r) else if c.toNat = 46 then (C8y, true, r) else if c.toNat = 91 then A15 r else if c.toNat = 92 then (match r with
  | [] => (1, false, [])
  | d :: r' => (2 ^ d.toNat, true, r')) else (2 ^ c.toNat, true, r)

/-- The items of a pattern; with fuel. -/
def A1s : Nat → List UInt8 → List R6 → Option (Bool × List R6)
 | 0, _, acc => some (false, acc)
 | _ + 1, [], acc => some (false, acc)
 | f + 1, c :: r, acc => if r = [] ∧ c.toNat = 36 then some (true, acc) else if (R2 (c :: r)).2.1 then A1s f (K0 42 (R2 (c :: r)).2.2).2 (acc ++ [((R2 (c :: r)).1, (K0 42 (R2 (c :: r)).2.2).1)]) else none

def F6 (l : List UInt8) : (Bool × Bool × List R6) × Int :=
 if 64 < l.length then ((false, false, []), 12) else
  match A1s (l.length + 1) (K0 94 l).2 [] with
  | none => ((false, false, []), 10)
  | some (e, is) => (((K0 94 l).1, e, is), 0)

theorem B2w (c : UInt8) (r : List UInt8) (m : Bool) (n : Nat) (h : c.toNat = 93) : S3 (c :: r) m n = (n, m, r) := by
 rcases r with _ | ⟨d, _ | ⟨x, r⟩⟩ <;> simp [S3, h]

theorem B2y (c : UInt8) (r : List UInt8) (m : Bool) (n : Nat) (h : ¬ c.toNat = 93) (hr : U5 r = false) : S3 (c :: r) m n = S3 r true (n ||| 2 ^ c.toNat) := by
 rcases r with _ | ⟨d, _ | ⟨x, r⟩⟩
 ·simp [S3, h]
 ·simp [S3, h]
 ·simp only [U5] at hr
  rw [S3, if_neg h]; simp only [hr]; rfl

theorem A80 (c d x : UInt8) (r : List UInt8) (m : Bool) (n : Nat) (h : ¬ c.toNat = 93) (hr : U5 (d :: x :: r) = true) : S3 (c :: d :: x :: r) m n = if x.toNat < c.toNat then (n, false, r) else S3 r true (A1j n c.toNat (x.toNat + 1 - c.toNat)) := by
 simp only [U5] at hr
 rw [S3, if_neg h]; simp only [hr, if_true]

theorem B3k {r : List UInt8} (h : U5 r = true) : ∃ d x r', r = d :: x :: r' := by
 rcases r with _ | ⟨d, _ | ⟨x, r⟩⟩
 ·simp [U5] at h
 ·simp [U5] at h
 ·exact ⟨d, x, r, rfl⟩

/-- A word of a number of four. -/
def S6 (n k : Nat) : Nat := n / 2 ^ (64 * k) % 2 ^ 64

theorem A5g (n k i : Nat) (hi : i < 64) : (S6 n k).testBit i = n.testBit (64 * k + i) := by
 rw [S6, Nat.testBit_mod_two_pow, Nat.testBit_div_two_pow]; simp [hi, Nat.add_comm]

theorem A59 (n k : Nat) : S6 n k < 2 ^ 64 := Nat.mod_lt _ (by decide)

theorem D4l {n m k : Nat} (h : ∀ i < 64, n.testBit (64 * k + i) = m.testBit (64 * k + i)) : S6 n k = S6 m k := by
 apply Nat.eq_of_testBit_eq
 intro i
 by_cases hi : i < 64
 ·rw [A5g _ _ _ hi, A5g _ _ _ hi, h i hi]
 ·rw [Nat.testBit_lt_two_pow (Nat.lt_of_lt_of_le (A59 n k) (Nat.pow_le_pow_right (by decide) (by omega))), Nat.testBit_lt_two_pow (Nat.lt_of_lt_of_le (A59 m k) (Nat.pow_le_pow_right (by decide) (by omega)))]

theorem Y7 (n k b : Nat) (h : b / 64 = k) : S6 (n ||| 2 ^ b) k = S6 n k ||| 2 ^ (b % 64) := by
 apply Nat.eq_of_testBit_eq
 intro i
 by_cases hi : i < 64
 ·rw [A5g _ _ _ hi, Nat.testBit_or, Nat.testBit_or, A5g _ _ _ hi, Nat.testBit_two_pow, Nat.testBit_two_pow]
  congr 1
  rw [decide_eq_decide]; omega
 ·have h1 : S6 n k ||| 2 ^ (b % 64) < 2 ^ 64 := Nat.or_lt_two_pow (A59 n k) (Nat.pow_lt_pow_right (by decide) (by omega))
  rw [Nat.testBit_lt_two_pow (Nat.lt_of_lt_of_le (A59 _ k) (Nat.pow_le_pow_right (by decide) (by omega))), Nat.testBit_lt_two_pow (Nat.lt_of_lt_of_le h1 (Nat.pow_le_pow_right (by decide) (by omega)))]

theorem V7 (n k b : Nat) (h : b / 64 ≠ k) : S6 (n ||| 2 ^ b) k = S6 n k := by
 apply D4l
 intro i hi
 rw [Nat.testBit_or, Nat.testBit_two_pow]
 have : ¬ b = 64 * k + i := by omega
 simp [this]

theorem B4y (n : Nat) : n % 18446744073709551616 = S6 n 0 := by simp [S6]
theorem B5q (n : Nat) : n / 18446744073709551616 % 18446744073709551616 = S6 n 1 := rfl
theorem B5n (n : Nat) : n / 340282366920938463463374607431768211456 % 18446744073709551616 = S6 n 2 := rfl
theorem B5c (n : Nat) : n / (18446744073709551616 * 340282366920938463463374607431768211456) % 18446744073709551616 = S6 n 3 := rfl

theorem D6t {n m : Nat} (hn : n < 2 ^ 256) (hm : m < 2 ^ 256) (h0 : S6 n 0 = S6 m 0) (h1 : S6 n 1 = S6 m 1) (h2 : S6 n 2 = S6 m 2) (h3 : S6 n 3 = S6 m 3) : n = m := by
 apply Nat.eq_of_testBit_eq
 intro i
 by_cases hi : i < 256
 ·have key : ∀ k, S6 n k = S6 m k → i / 64 = k → n.testBit i = m.testBit i := by
   intro k hk hik
   have := A5g n k (i % 64) (by omega)
   have h' := A5g m k (i % 64) (by omega)
   rw [hk, h', show 64 * k + i % 64 = i by omega] at this
   exact this.symm
  have : i / 64 = 0 ∨ i / 64 = 1 ∨ i / 64 = 2 ∨ i / 64 = 3 := by omega
  rcases this with h | h | h | h
  ·exact key 0 h0 h
  ·exact key 1 h1 h
  ·exact key 2 h2 h
  ·exact key 3 h3 h
 ·rw [Nat.testBit_lt_two_pow (Nat.lt_of_lt_of_le hn (Nat.pow_le_pow_right (by decide) (by omega))), Nat.testBit_lt_two_pow (Nat.lt_of_lt_of_le hm (Nat.pow_le_pow_right (by decide) (by omega)))]

theorem D94 (i : Nat) (h : i < 256) : Nat.testBit C8y i = true := by
 rw [Nat.testBit_two_pow_sub_one]; simpa using h

theorem D4m (n i : Nat) (hn : n < 2 ^ 256) (h : i < 256) : (D17 n).testBit i = !n.testBit i := by
 unfold D17
 rw [Nat.sub_sub, Nat.add_comm 1 n, Nat.testBit_two_pow_sub_succ hn]
 simp [h]

theorem D6v (n : Nat) : D17 n < 2 ^ 256 := by unfold D17; exact Nat.lt_of_le_of_lt (Nat.sub_le _ _) (by decide)

theorem A86 : ∀ (k n b : Nat), n < 2 ^ 256 → b + k ≤ 256 → A1j n b k < 2 ^ 256
 | 0, n, b, h, _ => h
 | k + 1, n, b, h, hb => A86 k _ _ (Nat.or_lt_two_pow h (Nat.pow_lt_pow_right (by decide) (by omega))) (by omega)

theorem A25 : ∀ (k n b : Nat), A1j n b (k + 1) = A1j n b k ||| 2 ^ (b + k)
 | 0, n, b => rfl
 | k + 1, n, b => by
  rw [A1j, A25 k (n ||| 2 ^ b) (b + 1), A1j]
  congr 2; omega

theorem D1v : ∀ (k n b i : Nat), (A1j n b k).testBit i = (n.testBit i || (decide (b ≤ i) && decide (i < b + k)))
 | 0, n, b, i => by
  have : (decide (b ≤ i) && decide (i < b + 0)) = false := by simp
  simp only [A1j, this, Bool.or_false]
 | k + 1, n, b, i => by
  rw [A25, Nat.testBit_or, D1v k n b i, Nat.testBit_two_pow, Bool.or_assoc]
  congr 1
  rw [Bool.eq_iff_iff]; simp; omega

theorem A30 (b : Nat) (l : List UInt8) : (K0 b l).2 <:+ l := by
  cases l with
  | nil => simp [K0]
  | cons c r => simp only [K0]; split
                · exact List.suffix_cons c r
                · exact List.suffix_refl _

theorem B7w : ∀ (k : Nat) (l : List UInt8) (m : Bool) (n : Nat), l.length ≤ k → (S3 l m n).2.2 <:+ l
 | _, [], _, _, _ => by simp [S3]
 | 0, _ :: _, _, _, h => by simp at h
 | k + 1, c :: r, m, n, h => by
  by_cases h1 : c.toNat = 93
  ·rw [B2w c r m n h1]; exact List.suffix_cons c r
  ·cases hr : U5 r with
   | false => rw [B2y c r m n h1 hr]; exact (B7w k r _ _ (by simpa using h)).trans (List.suffix_cons c r)
   | true =>
    obtain ⟨d, x, r', rfl⟩ := B3k hr
    rw [A80 c d x r' m n h1 hr]
    have hs : r' <:+ c :: d :: x :: r' := (List.suffix_cons x r').trans ((List.suffix_cons d _).trans (List.suffix_cons c _))
    split
    ·exact hs
    ·exact (B7w k r' _ _ (by simp at h; omega)).trans hs

theorem B67 : ∀ (k : Nat) (l : List UInt8) (m : Bool) (n : Nat), l.length ≤ k → n < 2 ^ 256 → (S3 l m n).1 < 2 ^ 256
 | _, [], _, n, _, hn => by simpa [S3] using hn
 | 0, _ :: _, _, _, h, _ => by simp at h
 | k + 1, c :: r, m, n, h, hn => by
  have hc := A7n c
  by_cases h1 : c.toNat = 93
  ·rw [B2w c r m n h1]; exact hn
  ·cases hr : U5 r with
   | false => rw [B2y c r m n h1 hr]; exact B67 k r _ _ (by simpa using h) (Nat.or_lt_two_pow hn (Nat.pow_lt_pow_right (by decide) hc))
   | true =>
    obtain ⟨d, x, r', rfl⟩ := B3k hr
    have hx := A7n x
    rw [A80 c d x r' m n h1 hr]
    split
    ·exact hn
    ·exact B67 k r' _ _ (by simp at h; omega) (A86 _ _ _ hn (by omega))

theorem D47 (l : List UInt8) : (A15 l).2.2 <:+ l := (B7w _ _ _ _ (Nat.le_refl _)).trans (A30 94 l)

theorem D69 (l : List UInt8) : (A15 l).1 < 2 ^ 256 := by
 unfold A15
 simp only
 split
 ·exact D6v _
 ·exact B67 _ _ _ _ (Nat.le_refl _) (Nat.two_pow_pos _)

theorem B6d (c : UInt8) (r : List UInt8) : (R2 (c :: r)).2.2 <:+ r := by
 simp only [R2]
 split
 ·exact List.suffix_refl _
 split
 ·exact List.suffix_refl _
 split
 ·exact D47 r
 split
 ·cases r with
  | nil => exact List.suffix_refl _
  | cons d r => exact List.suffix_cons d r
 ·exact List.suffix_refl _

theorem D1q (l : List UInt8) : (R2 l).1 < 2 ^ 256 := by
  cases l with
  | nil => exact Nat.two_pow_pos _
  | cons c r =>
    have hc := A7n c
    have pw : ∀ d : UInt8, 2 ^ d.toNat < 2 ^ 256 := fun d => Nat.pow_lt_pow_right (by decide) (A7n d)
    simp only [R2]
    split
    · exact Nat.two_pow_pos _
    split
    · show C8y < 2 ^ 256
      decide
    split
    · exact D69 r
    split
    · cases r with
      | nil => show 1 < 2 ^ 256
               decide
      | cons d r => exact pw d
    · exact pw c

theorem D92 : A1j 0 0 256 = C8y := by
 apply D6t (A86 _ _ _ (Nat.two_pow_pos _) (by decide)) (by decide)
 all_goals
  apply D4l
  intro i hi
  rw [D1v, D94 _ (by omega)]
  simp; omega

theorem D4d (b : Nat) : A1j 0 b 1 = 2 ^ b := by simp [A1j]

theorem C57 : ∀ (f : Nat) (l : List UInt8) (acc : List R6) (e : Bool) (is : List R6), A1s f l acc = some (e, is) → is.length ≤ acc.length + l.length
 | 0, l, acc, e, is, h => by simp only [A1s, Option.some.injEq, Prod.mk.injEq] at h; rw [← h.2]; omega
 | f + 1, [], acc, e, is, h => by simp only [A1s, Option.some.injEq, Prod.mk.injEq] at h; rw [← h.2]; omega
 | f + 1, c :: r, acc, e, is, h => by
  simp only [A1s] at h
  split at h
  ·simp only [Option.some.injEq, Prod.mk.injEq] at h; rw [← h.2]; omega
  ·split at h
   ·have := C57 f _ _ e is h
    have h1 := (A30 42 (R2 (c :: r)).2.2).length_le
    have h2 := (B6d c r).length_le
    simp at this ⊢; omega
   ·cases h

theorem C7x (l : List UInt8) : (F6 l).1.2.2.length ≤ 64 := by
 unfold F6
 split
 ·simp
 ·cases h : A1s (l.length + 1) (K0 94 l).2 [] with
  | none => simp
  | some x =>
   obtain ⟨e, is⟩ := x
   have h1 := C57 _ _ _ _ _ h
   have h2 := (A30 94 l).length_le
   simp at h1 ⊢; omega

abbrev bT (b : Bool) : List T := [.v (.bool b)]
abbrev D2m (l : List Bool) : AV := .t (.sl 1 (l.map bT))

def V2 (is : List R6) (i : Nat) : Bool := (is[i]?.map (·.2)).getD false
def B8v (is : List R6) (i b : Nat) : Bool := (is[i]?.map fun x => x.1.testBit b).getD false

/-- An item may come next, and those behind it. -/
def A0x (is : List R6) : Nat → Nat → List Bool → List Bool
 | 0, _, s => s
 | f + 1, i, s => if s.getD i false then s else if V2 is i then A0x is f (i + 1) (s.set i true) else s.set i true

/-- The states behind a byte: so many items are looked at. -/
def A1m (is : List R6) (s : List Bool) (b : Nat) : Nat → List Bool
 | 0 => List.replicate (is.length + 1) false
 | k + 1 => if s.getD k false && B8v is k b then A0x is (is.length + 1) (if V2 is k then k else k + 1) (A1m is s b k) else A1m is s b k
def B0d (is : List R6) (s : List Bool) (b : Nat) : List Bool := A1m is s b is.length

def C2r (start stop : Bool) (is : List R6) : List UInt8 → List Bool → Bool
 | [], s => s.getD is.length false
 | c :: r, s => if s.getD is.length false && !stop then true else C2r start stop is r (if start then B0d is s c.toNat else A0x is (is.length + 1) 0 (B0d is s c.toNat))
def B2z (start stop : Bool) (is : List R6) (tx : List UInt8) : Bool := C2r start stop is tx (A0x is (is.length + 1) 0 (List.replicate (is.length + 1) false))

theorem A48 (is : List R6) : ∀ (f i : Nat) (s : List Bool), (A0x is f i s).length = s.length
 | 0, _, _ => rfl
 | f + 1, i, s => by
  simp only [A0x]
  split
  ·rfl
  ·split
   ·rw [A48 is f]; simp
   ·simp

theorem A8b (is : List R6) (s : List Bool) (b : Nat) : ∀ k, (A1m is s b k).length = is.length + 1
 | 0 => by simp [A1m]
 | k + 1 => by
  simp only [A1m]
  split
  ·rw [A48, A8b is s b k]
  ·exact A8b is s b k

theorem D6r (is : List R6) (s : List Bool) (b : Nat) : (B0d is s b).length = is.length + 1 := A8b is s b _

/-! ### Where the items so far can end -/

def A6n (star : Bool) (fit : Nat → Bool) (E : Nat → Bool) : Nat → Bool
 | 0 => star && E 0
 | k + 1 => if star then E (k + 1) || (A6n star fit E k && fit k) else E k && fit k

def B7j (tx : List UInt8) (n : Nat) (k : Nat) : Bool := (tx[k]?.map fun c => n.testBit c.toNat).getD false

def A6x (start : Bool) (tx : List UInt8) : List R6 → (Nat → Bool) → (Nat → Bool)
 | [], E => E
 | x :: is, E => A6x start tx is (A6n x.2 (B7j tx x.1) E)

def A1q (start : Bool) : Nat → Bool := fun k => !start || k == 0
def D71 (start stop : Bool) (is : List R6) (tx : List UInt8) : Bool :=
 if stop then A6x start tx is (A1q start) tx.length else (List.range (tx.length + 1)).any (A6x start tx is (A1q start))

/-- A byte. -/
abbrev U8 (n : Nat) : AV := .t (.v (.int .u8 ((n : Nat) : Int)))

/-- The reader of a pattern, ahead of what is left. -/
abbrev pst (s : ByteArray) (rest : List UInt8) : Ob := .box [.t (.v (.string s)), I ((s.size - rest.length : Nat) : Int)]

theorem A02 {io : List Nat} {env : List (Nat × AV)} {sto : List (Nat × Ob)} {res : List RV} {r : AV} {e : Exit} {outs : List (Nat × Ob)} (rn : List (Nat × Nat)) (sn : List Nat) (hr : ∃ raw, (B6n env sto res).map A8t = some raw ∧ G1 (A9 sto) sn (ren rn) raw r) (he : e = .ret ∨ e = .normal := by first | exact Or.inl rfl | exact Or.inr rfl)
  (hi : ∀ i ∈ r.ids, i ∈ A4 outs := by simp [AV.ids, B5, A4]) (h2 : A1t sto sn rn outs outs := by simp [A1t, wkO, B69, C17, A9, ren, A4, Ob.ids, G1, G2, AV.one, B5, AV.ids, I3, pst] <;> assumption) (h3 : ((A4 outs).map (ren rn)).Nodup := by simp [A4, ren])
  (h4 : ∀ i ∈ sn, 100 ≤ i ∧ A2d (A9 sto i) = true ∧ ∀ j ∈ A4 outs, ren rn j ≠ i := by simp [A9, A4, ren]) (h5 : ∀ i ∈ io, ren rn i = i := by simp [A4, ren]) (h6 : ∀ i ∈ A4 outs, ren rn i ∈ io → i = ren rn i := by simp [A4, ren]) :
  A7q io res r outs e ⟨H1 env, A9 sto⟩ := wO rn sn hr he hi h2 h3 h4 h5 h6

theorem A9d {io : List Nat} {env : List (Nat × AV)} {sto : List (Nat × Ob)} {env' : List (Nat × AV)} {sto' : List (Nat × Ob)} (rn : List (Nat × Nat)) (sn : List Nat)
  (h1 : A6s sto sn rn env sto' env' := by simp [A6s, go_sem, G1, G2, AV.ids, B5, A4, ren, A9, B1, AV.asOwn, B3, AV.isNil, J8, B6, B4, B8, A2j, I3, pst] <;> assumption)
  (h2 : A1t sto sn rn sto' sto' := by simp [A1t, go_sem, G1, G2, wkO, AV.ids, Ob.ids, B5, A4, ren, AV.one, A9, B1, AV.asOwn, B3, AV.isNil, J8, B6, B4, B8, A2j, I3, pst] <;> assumption)
  (h3 : ((A4 sto').map (ren rn)).Nodup := by simp [A4, ren]) (h4 : ∀ i ∈ sn, 100 ≤ i ∧ A2d (A9 sto i) = true ∧ ∀ j ∈ A4 sto', ren rn j ≠ i := by simp [A9, A4, ren])
  (h5 : ∀ i ∈ io, ren rn i = i := by simp [A4, ren]) (h6 : ∀ i ∈ A4 sto', ren rn i ∈ io → i = ren rn i := by simp [A4, ren]) :
  Sub io ⟨H1 env, A9 sto⟩ ⟨H1 env', A9 sto'⟩ := C0t rn sn h1 h2 h3 h4 h5 h6

theorem C56 (s : ByteArray) (rest : List UInt8) (h : Suf s rest) : Meets Tryz.prog E0 S0 [.ptr 0 0] [(0, pst s rest)] (Bo (!rest.isEmpty)) [(0, pst s rest)] := by
 refine B5r (by simp) (C2 (by simp [B5, AV.ids, A4, I3, pst]) (by simp [Ob.live, Ob.ids, A4, B5, AV.ids, I3, pst])) (C2 (by simp [B5, AV.ids, A4, I3, pst]) (by simp [Ob.live, Ob.ids, A4, B5, AV.ids, I3, pst])) (by simp [A4]) (by simp [A4]) ?_
 simp only [go_sem, A6o]
 refine A02 [] [] ?_
 simp only [go_sem, A6h, exists_eq_left', Option.some.injEq]
 have := h.len
 cases rest with
 | nil => simp [G1, G2, B1, AV.asOwn, B3, A9, AV.isNil, J8, B6, B4, B8]
 | cons c r => simp [G1, G2, B1, AV.asOwn, B3, A9, AV.isNil, J8, B6, B4, B8]; simp at this; omega

theorem B1e (id : Nat) (s : ByteArray) (rest : List UInt8) (h : Suf s rest) : Meets Tryz.prog E0 S0 [.ptr id 0] [(id, pst s rest)] (Bo (!rest.isEmpty)) [(id, pst s rest)] := by
 have := (C56 s rest h).ren (fun _ => id) (by simp [A4])
 exact this

theorem C0l {s : ByteArray} {c : UInt8} {r : List UInt8} (h : Suf s (c :: r)) : s[s.size - (r.length + 1)]? = some c ∧ s.size - (r.length + 1) + 1 = s.size - r.length ∧ s.size - (r.length + 1) < s.size := by
 have h1 := h.get 0
 have := h.len
 simp at h1 this
 exact ⟨h1, by omega, by omega⟩

theorem C5z (b : Nat) (s : ByteArray) (rest : List UInt8) (h : Suf s rest) (hs : s.size < 4611686018427387904) : Meets Tryz.prog E0 P4 [.ptr 0 0, U8 b] [(0, pst s rest)] (Bo (K0 b rest).1) [(0, pst s (K0 b rest).2)] := by
 refine B5o (by simp) (C2 (by simp [B5, AV.ids, A4, I3, pst]) (by simp [Ob.live, Ob.ids, A4, B5, AV.ids, I3, pst])) (C2 (by simp [B5, AV.ids, A4, I3, pst]) (by simp [Ob.live, Ob.ids, A4, B5, AV.ids, I3, pst])) (by simp [A4]) (by simp [A4]) ?_
 simp only [go_sem, A6j]
 refine oB (B1e 0 s rest h) ?_
 cases rest with
 | nil =>
  simp only [go_sem, List.isEmpty_nil, K0]
  refine A02 [] [] ?_
  simp only [go_sem, A0w, exists_eq_left', Option.some.injEq]
  simp [G1, G2, B1, AV.asOwn, B3, A9, AV.isNil, J8, B6, B4, B8]
 | cons c r =>
  obtain ⟨hg, hl, hlt⟩ := C0l h
  cases hc : decide (c.toNat = b)
  ·simp at hc
   rw [show K0 b (c :: r) = (false, c :: r) from by simp [K0, hc]]
   simp only [go_sem, hg, show decide (c.toNat = b) = false from by simp [hc]]
   refine A02 [] [] ?_
   simp only [go_sem, A0w, exists_eq_left', Option.some.injEq]
   simp [G1, G2, B1, AV.asOwn, B3, A9, AV.isNil, J8, B6, B4, B8]
  ·simp at hc
   rw [show K0 b (c :: r) = (true, r) from by simp [K0, hc]]
   have e1 : IntKind.i64.wrap (((s.size - (r.length + 1) : Nat) : Int) + 1) = ((s.size - r.length : Nat) : Int) := by rw [A5 (by omega) (by omega)]; omega
   simp only [go_sem, hg, hc, decide_true, e1]
   refine A02 [] [] ?_
   simp only [go_sem, A0w, exists_eq_left', Option.some.injEq]
   simp [G1, G2, B1, AV.asOwn, B3, A9, AV.isNil, J8, B6, B4, B8]

theorem A21 (id b : Nat) (s : ByteArray) (rest : List UInt8) (h : Suf s rest) (hs : s.size < 4611686018427387904) : Meets Tryz.prog E0 P4 [.ptr id 0, U8 b] [(id, pst s rest)] (Bo (K0 b rest).1) [(id, pst s (K0 b rest).2)] := by
 have := (C5z b s rest h hs).ren (fun _ => id) (by simp [A4])
 exact this

def A3w : List UInt8 → Nat × Bool × List UInt8
 | [] => (0, false, [])
 | c :: r => (c.toNat, true, r)

theorem C43 (s : ByteArray) (rest : List UInt8) (h : Suf s rest) (hs : s.size < 4611686018427387904) : Meets Tryz.prog E0 P6 [.ptr 0 0] [(0, pst s rest)] (.tp [U8 (A3w rest).1, Bo (A3w rest).2.1]) [(0, pst s (A3w rest).2.2)] := by
 refine B4s (by simp) (C2 (by simp [B5, AV.ids, A4, I3, pst]) (by simp [Ob.live, Ob.ids, A4, B5, AV.ids, I3, pst])) (C2 (by simp [B5, AV.ids, A4, I3, pst]) (by simp [Ob.live, Ob.ids, A4, B5, AV.ids, I3, pst])) (by simp [A4]) (by simp [A4]) ?_
 simp only [go_sem, A6y]
 refine oB (B1e 0 s rest h) ?_
 cases rest with
 | nil =>
  simp only [go_sem, List.isEmpty_nil, A3w]
  refine A02 [] [] ?_
  simp only [go_sem, A2p, exists_eq_left', Option.some.injEq]
  simp [G1, G2, B1, AV.asOwn, B3, A9, AV.isNil, J8, B6, B4, B8]
 | cons c r =>
  obtain ⟨hg, hl, hlt⟩ := C0l h
  have e1 : IntKind.i64.wrap (((s.size - (r.length + 1) : Nat) : Int) + 1) = ((s.size - r.length : Nat) : Int) := by rw [A5 (by omega) (by omega)]; omega
  have e2 : IntKind.i64.wrap (((s.size - r.length : Nat) : Int) - 1) = ((s.size - (r.length + 1) : Nat) : Int) := by rw [A5 (by omega) (by omega)]; omega
  simp only [go_sem, e1, e2, hg, A3w]
  refine A02 [] [] ?_
  simp only [go_sem, A2p, exists_eq_left', Option.some.injEq]
  simp [G1, G2, B1, AV.asOwn, B3, A9, AV.isNil, J8, B6, B4, B8]

theorem A6a (id : Nat) (s : ByteArray) (rest : List UInt8) (h : Suf s rest) (hs : s.size < 4611686018427387904) : Meets Tryz.prog E0 P6 [.ptr id 0] [(id, pst s rest)] (.tp [U8 (A3w rest).1, Bo (A3w rest).2.1]) [(id, pst s (A3w rest).2.2)] := by
 have := (C43 s rest h hs).ren (fun _ => id) (by simp [A4])
 exact this

theorem C1l (s : ByteArray) (rest : List UInt8) (h : Suf s rest) (hs : s.size < 4611686018427387904) : Meets Tryz.prog E0 Y6 [.ptr 0 0] [(0, pst s rest)] (Bo (U5 rest)) [(0, pst s rest)] := by
 refine B3m (by simp) (C2 (by simp [B5, AV.ids, A4, I3, pst]) (by simp [Ob.live, Ob.ids, A4, B5, AV.ids, I3, pst])) (C2 (by simp [B5, AV.ids, A4, I3, pst]) (by simp [Ob.live, Ob.ids, A4, B5, AV.ids, I3, pst])) (by simp [A4]) (by simp [A4]) ?_
 have hl := h.len
 rcases rest with _ | ⟨d, _ | ⟨x, r⟩⟩
 ·have d1 : decide (((s.size : Nat) : Int) + 1 < ((s.size : Nat) : Int)) = false := by simp; omega
  ((try simp only [go_sem, N5, Nat.sub_zero, d1]); repeat (simp (disch := omega) only [A5, C4, C1, J1, J6]; (try simp only [go_sem, N5, Nat.sub_zero, d1])))
  refine A02 [] [] ?_
  simp only [go_sem, T5, exists_eq_left', Option.some.injEq]
  simp [G1, G2, B1, AV.asOwn, B3, A9, AV.isNil, J8, B6, B4, B8, U5]
 ·have d1 : decide (((s.size - 1 : Nat) : Int) + 1 < ((s.size : Nat) : Int)) = false := by simp at hl; simp; omega
  ((try simp only [go_sem, N5, d1]); repeat (simp (disch := omega) only [A5, C4, C1, J1, J6]; (try simp only [go_sem, N5, d1])))
  refine A02 [] [] ?_
  simp only [go_sem, T5, exists_eq_left', Option.some.injEq]
  simp [G1, G2, B1, AV.asOwn, B3, A9, AV.isNil, J8, B6, B4, B8, U5]
 ·simp at hl
  obtain ⟨g1, g2, g3⟩ := C0l h
  obtain ⟨k1, k2, k3⟩ := C0l h.tail
  simp only [List.length_cons] at g1 g2 g3
  have e1 : IntKind.i64.wrap (((s.size - (r.length + 1 + 1) : Nat) : Int) + 1) = ((s.size - (r.length + 1) : Nat) : Int) := by rw [A5 (by omega) (by omega)]; omega
  have d1 : decide (s.size - (r.length + 1) < s.size) = true := by simp; omega
  cases hd : decide (d.toNat = 45)
  ·simp only [go_sem, N5, e1, d1, g1, hd]
   refine A02 [] [] ?_
   simp only [go_sem, T5, exists_eq_left', Option.some.injEq]
   simp at hd
   simp [G1, G2, B1, AV.asOwn, B3, A9, AV.isNil, J8, B6, B4, B8, U5, hd]
  ·simp only [go_sem, N5, e1, d1, g1, hd, k1]
   refine A02 [] [] ?_
   simp only [go_sem, T5, exists_eq_left', Option.some.injEq]
   simp at hd
   by_cases hx : x.toNat = 93 <;> simp [G1, G2, B1, AV.asOwn, B3, A9, AV.isNil, J8, B6, B4, B8, U5, hd, hx]

theorem C3g (id : Nat) (s : ByteArray) (rest : List UInt8) (h : Suf s rest) (hs : s.size < 4611686018427387904) : Meets Tryz.prog E0 Y6 [.ptr id 0] [(id, pst s rest)] (Bo (U5 rest)) [(id, pst s rest)] := by
 have := (C1l s rest h hs).ren (fun _ => id) (by simp [A4])
 exact this

theorem D2z (n lo hi : Nat) (hn : n < 2 ^ 256) (hlo : lo < 256) (hhi : hi < 256) : Meets Tryz.prog E0 U9 [.ptr 0 0, U8 lo, U8 hi] [(0, .box (I3 n))] (.tp []) [(0, .box (I3 (A1j n lo (hi + 1 - lo))))] := by
 refine C1d (by simp) (C2 (by simp [B5, AV.ids, A4, I3, pst]) (by simp [Ob.live, Ob.ids, A4, B5, AV.ids, I3, pst])) (C2 (by simp [B5, AV.ids, A4, I3, pst]) (by simp [Ob.live, Ob.ids, A4, B5, AV.ids, I3, pst])) (by simp [A4]) (by simp [A4]) ?_
 ((try simp only [go_sem, A63]); repeat (simp (disch := omega) only [A5, C4, C1, J1, J6]; (try simp only [go_sem, A63])))
 refine C8 (fun k : Nat => hi + 1 - lo - k) (fun k => k ≤ hi + 1 - lo)
  (fun k => [(0, .ptr 0 0), (1, U8 lo), (2, U8 hi), (6, I ((lo + k : Nat) : Int))])
  (fun k => [(0, .box (I3 (A1j n lo k)))])
  0 (by omega) ?_ ?_
 ·rw [show A1j n lo 0 = n from rfl]
  exact (A9d [] [])
 ·intro k hk
  ((try simp only [go_sem]); repeat (simp (disch := omega) only [A5, C4, C1, J1, J6]; (try simp only [go_sem])))
  refine G3 rfl (fun h1 => ?_) (fun h1 => ?_)
  ·simp at h1
   generalize hm : A1j n lo k = m
   have hand : G9 .and .i64 ((lo + k : Nat) : Int) 63 = some (.int .i64 (((lo + k) % 64 : Nat) : Int)) := by
    have := D1i (a := lo + k) (b := 63) (by omega) (by decide)
    rw [show (lo + k) &&& 63 = (lo + k) % 64 from Nat.and_two_pow_sub_one_eq_mod (lo + k) 6] at this
    exact this
   have hshr : (lo + k) / 2 ^ (min 6 64) = (lo + k) / 64 := rfl
   have hmin : min ((lo + k) % 64) 64 = (lo + k) % 64 := Nat.min_eq_left (by omega)
   have h4 : (lo + k) / 64 = 0 ∨ (lo + k) / 64 = 1 ∨ (lo + k) / 64 = 2 ∨ (lo + k) / 64 = 3 := by omega
   have i4 : ∀ j : Nat, j < 4 → (j : Int) < ((4 : Nat) : Int) := by omega
   have o1 : (lo + k) / 64 ≠ 0 → (m ||| 2 ^ (lo + k)) % 18446744073709551616 = m % 18446744073709551616 := fun h => by rw [B4y, B4y, V7 _ _ _ h]
   have o2 : (lo + k) / 64 ≠ 1 → (m ||| 2 ^ (lo + k)) / 18446744073709551616 % 18446744073709551616 = m / 18446744073709551616 % 18446744073709551616 := fun h => by rw [B5q, B5q, V7 _ _ _ h]
   have o3 : (lo + k) / 64 ≠ 2 → (m ||| 2 ^ (lo + k)) / 340282366920938463463374607431768211456 % 18446744073709551616 = m / 340282366920938463463374607431768211456 % 18446744073709551616 := fun h => by rw [B5n, B5n, V7 _ _ _ h]
   have o4 : (lo + k) / 64 ≠ 3 → (m ||| 2 ^ (lo + k)) / (18446744073709551616 * 340282366920938463463374607431768211456) % 18446744073709551616 = m / (18446744073709551616 * 340282366920938463463374607431768211456) % 18446744073709551616 := fun h => by rw [B5c, B5c, V7 _ _ _ h]
   have p0 : 2 ^ ((lo + k) % 64) % 18446744073709551616 = 2 ^ ((lo + k) % 64) := Nat.mod_eq_of_lt (Nat.pow_lt_pow_right (n := 64) (by decide) (by omega))
   have p1 : (lo + k) / 64 = 0 → (m ||| 2 ^ (lo + k)) % 18446744073709551616 = m % 18446744073709551616 % 18446744073709551616 ||| 2 ^ ((lo + k) % 64) := fun h => by rw [Nat.mod_mod, B4y, B4y, Y7 _ _ _ h]
   have p2 : (lo + k) / 64 = 1 → (m ||| 2 ^ (lo + k)) / 18446744073709551616 % 18446744073709551616 = m / 18446744073709551616 % 18446744073709551616 % 18446744073709551616 ||| 2 ^ ((lo + k) % 64) := fun h => by rw [Nat.mod_mod, B5q, B5q, Y7 _ _ _ h]
   have p3 : (lo + k) / 64 = 2 → (m ||| 2 ^ (lo + k)) / 340282366920938463463374607431768211456 % 18446744073709551616 = m / 340282366920938463463374607431768211456 % 18446744073709551616 % 18446744073709551616 ||| 2 ^ ((lo + k) % 64) := fun h => by rw [Nat.mod_mod, B5n, B5n, Y7 _ _ _ h]
   have p4 : (lo + k) / 64 = 3 → (m ||| 2 ^ (lo + k)) / (18446744073709551616 * 340282366920938463463374607431768211456) % 18446744073709551616 = m / (18446744073709551616 * 340282366920938463463374607431768211456) % 18446744073709551616 % 18446744073709551616 ||| 2 ^ ((lo + k) % 64) := fun h => by rw [Nat.mod_mod, B5c, B5c, Y7 _ _ _ h]
   have ek : IntKind.i64.wrap (((lo + k : Nat) : Int) + 1) = ((lo + (k + 1) : Nat) : Int) := by rw [A5 (by omega) (by omega)]; omega
   rcases h4 with h4 | h4 | h4 | h4
   ·have q1 := p1 h4
    have q2 := o2 (by omega)
    have q3 := o3 (by omega)
    have q4 := o4 (by omega)
    ((try simp only [go_sem, hand, hshr, hmin, h4, i4 0 (by decide), I3, ek, p0]); repeat (simp (disch := omega) only [A5, C4, C1, J1, J6]; (try simp only [go_sem, hand, hshr, hmin, h4, i4 0 (by decide), I3, ek, p0])))
    refine C3 (k + 1) (by first | omega | (simp only; omega)) (by first | omega | (simp only; omega)) ?_
    rw [A25, hm]
    simp only [I3, q1, q2, q3, q4]
    exact (A9d [] [])
   ·have q1 := o1 (by omega)
    have q2 := p2 h4
    have q3 := o3 (by omega)
    have q4 := o4 (by omega)
    ((try simp only [go_sem, hand, hshr, hmin, h4, i4 1 (by decide), I3, ek, p0]); repeat (simp (disch := omega) only [A5, C4, C1, J1, J6]; (try simp only [go_sem, hand, hshr, hmin, h4, i4 1 (by decide), I3, ek, p0])))
    refine C3 (k + 1) (by first | omega | (simp only; omega)) (by first | omega | (simp only; omega)) ?_
    rw [A25, hm]
    simp only [I3, q1, q2, q3, q4]
    exact (A9d [] [])
   ·have q1 := o1 (by omega)
    have q2 := o2 (by omega)
    have q3 := p3 h4
    have q4 := o4 (by omega)
    ((try simp only [go_sem, hand, hshr, hmin, h4, i4 2 (by decide), I3, ek, p0]); repeat (simp (disch := omega) only [A5, C4, C1, J1, J6]; (try simp only [go_sem, hand, hshr, hmin, h4, i4 2 (by decide), I3, ek, p0])))
    refine C3 (k + 1) (by first | omega | (simp only; omega)) (by first | omega | (simp only; omega)) ?_
    rw [A25, hm]
    simp only [I3, q1, q2, q3, q4]
    exact (A9d [] [])
   ·have q1 := o1 (by omega)
    have q2 := o2 (by omega)
    have q3 := o3 (by omega)
    have q4 := p4 h4
    ((try simp only [go_sem, hand, hshr, hmin, h4, i4 3 (by decide), I3, ek, p0]); repeat (simp (disch := omega) only [A5, C4, C1, J1, J6]; (try simp only [go_sem, hand, hshr, hmin, h4, i4 3 (by decide), I3, ek, p0])))
    refine C3 (k + 1) (by first | omega | (simp only; omega)) (by first | omega | (simp only; omega)) ?_
    rw [A25, hm]
    simp only [I3, q1, q2, q3, q4]
    exact (A9d [] [])
  ·simp at h1
   have e : k = hi + 1 - lo := by omega
   subst e
   simp only [go_sem]
   refine A02 [] [] ?_
   simp only [go_sem, B23, exists_eq_left', Option.some.injEq]
   simp [G1, G2, B1, AV.asOwn, B3, A9, AV.isNil, J8, B6, B4, B8]

theorem A8f (id n lo hi : Nat) (hn : n < 2 ^ 256) (hlo : lo < 256) (hhi : hi < 256) : Meets Tryz.prog E0 U9 [.ptr id 0, U8 lo, U8 hi] [(id, .box (I3 n))] (.tp []) [(id, .box (I3 (A1j n lo (hi + 1 - lo))))] := by
 have := (D2z n lo hi hn hlo hhi).ren (fun _ => id) (by simp [A4])
 exact this

theorem B6a {n : Nat} (hn : n < 2 ^ 256) (k : Nat) (hk : k < 4) : S6 (D17 n) k = 18446744073709551616 - 1 - S6 n k := by
 apply Nat.eq_of_testBit_eq
 intro i
 have hw := A59 n k
 have e : (18446744073709551616 : Nat) - 1 - S6 n k = 2 ^ 64 - (S6 n k + 1) := by omega
 by_cases hi : i < 64
 ·rw [A5g _ _ _ hi, D4m n _ hn (by omega), e, Nat.testBit_two_pow_sub_succ hw, A5g _ _ _ hi]
  simp [hi]
 ·rw [Nat.testBit_lt_two_pow (Nat.lt_of_lt_of_le (A59 _ k) (Nat.pow_le_pow_right (by decide) (by omega))), Nat.testBit_lt_two_pow (Nat.lt_of_lt_of_le (show (18446744073709551616 : Nat) - 1 - S6 n k < 2 ^ 64 by omega) (Nat.pow_le_pow_right (by decide) (by omega)))]

/-- Words, the first ones of which are turned over. -/
def cwL (n : Nat) : Nat → List AV
 | 0 => [U (S6 n 0 : Nat), U (S6 n 1 : Nat), U (S6 n 2 : Nat), U (S6 n 3 : Nat)]
 | 1 => [U (18446744073709551616 - 1 - S6 n 0 : Nat), U (S6 n 1 : Nat), U (S6 n 2 : Nat), U (S6 n 3 : Nat)]
 | 2 => [U (18446744073709551616 - 1 - S6 n 0 : Nat), U (18446744073709551616 - 1 - S6 n 1 : Nat), U (S6 n 2 : Nat), U (S6 n 3 : Nat)]
 | 3 => [U (18446744073709551616 - 1 - S6 n 0 : Nat), U (18446744073709551616 - 1 - S6 n 1 : Nat), U (18446744073709551616 - 1 - S6 n 2 : Nat), U (S6 n 3 : Nat)]
 | _ => [U (18446744073709551616 - 1 - S6 n 0 : Nat), U (18446744073709551616 - 1 - S6 n 1 : Nat), U (18446744073709551616 - 1 - S6 n 2 : Nat), U (18446744073709551616 - 1 - S6 n 3 : Nat)]

theorem A8v {io : List Nat} {env : List (Nat × AV)} {sto : List (Nat × Ob)} {res : List RV} {r : AV} {e : Exit} {outs : List (Nat × Ob)} (rn : List (Nat × Nat)) (sn : List Nat) (hr : ∃ raw, (B6n env sto res).map A8t = some raw ∧ G1 (A9 sto) sn (ren rn) raw r) (he : e = .ret ∨ e = .normal := by first | exact Or.inl rfl | exact Or.inr rfl)
  (hi : ∀ i ∈ r.ids, i ∈ A4 outs := by simp [AV.ids, B5, A4]) (h2 : A1t sto sn rn outs outs := by simp [A1t, wkO, B69, C17, A9, ren, A4, Ob.ids, G1, G2, AV.one, B5, AV.ids, I3, pst, cwL] <;> assumption) (h3 : ((A4 outs).map (ren rn)).Nodup := by simp [A4, ren])
  (h4 : ∀ i ∈ sn, 100 ≤ i ∧ A2d (A9 sto i) = true ∧ ∀ j ∈ A4 outs, ren rn j ≠ i := by simp [A9, A4, ren]) (h5 : ∀ i ∈ io, ren rn i = i := by simp [A4, ren]) (h6 : ∀ i ∈ A4 outs, ren rn i ∈ io → i = ren rn i := by simp [A4, ren]) :
  A7q io res r outs e ⟨H1 env, A9 sto⟩ := wO rn sn hr he hi h2 h3 h4 h5 h6

theorem A2y {io : List Nat} {env : List (Nat × AV)} {sto : List (Nat × Ob)} {env' : List (Nat × AV)} {sto' : List (Nat × Ob)} (rn : List (Nat × Nat)) (sn : List Nat)
  (h1 : A6s sto sn rn env sto' env' := by simp [A6s, go_sem, G1, G2, AV.ids, B5, A4, ren, A9, B1, AV.asOwn, B3, AV.isNil, J8, B6, B4, B8, A2j, I3, pst, cwL] <;> assumption)
  (h2 : A1t sto sn rn sto' sto' := by simp [A1t, go_sem, G1, G2, wkO, AV.ids, Ob.ids, B5, A4, ren, AV.one, A9, B1, AV.asOwn, B3, AV.isNil, J8, B6, B4, B8, A2j, I3, pst, cwL] <;> assumption)
  (h3 : ((A4 sto').map (ren rn)).Nodup := by simp [A4, ren]) (h4 : ∀ i ∈ sn, 100 ≤ i ∧ A2d (A9 sto i) = true ∧ ∀ j ∈ A4 sto', ren rn j ≠ i := by simp [A9, A4, ren])
  (h5 : ∀ i ∈ io, ren rn i = i := by simp [A4, ren]) (h6 : ∀ i ∈ A4 sto', ren rn i ∈ io → i = ren rn i := by simp [A4, ren]) :
  Sub io ⟨H1 env, A9 sto⟩ ⟨H1 env', A9 sto'⟩ := C0t rn sn h1 h2 h3 h4 h5 h6

theorem A8e (n : Nat) : I3 n = [U (S6 n 0 : Nat), U (S6 n 1 : Nat), U (S6 n 2 : Nat), U (S6 n 3 : Nat)] := by
 show [U ((n % 18446744073709551616 : Nat) : Int), U ((n / 18446744073709551616 % 18446744073709551616 : Nat) : Int), U ((n / 340282366920938463463374607431768211456 % 18446744073709551616 : Nat) : Int), U ((n / (18446744073709551616 * 340282366920938463463374607431768211456) % 18446744073709551616 : Nat) : Int)] = _
 rw [B4y n, B5q n, B5n n, B5c n]

theorem D8l (n : Nat) : cwL n 0 = I3 n := (A8e n).symm

theorem D73 {n : Nat} (hn : n < 2 ^ 256) : cwL n 4 = I3 (D17 n) := by
 rw [A8e]
 simp only [cwL]
 rw [B6a hn 0 (by decide), B6a hn 1 (by decide), B6a hn 2 (by decide), B6a hn 3 (by decide)]

theorem C3v {a : Nat} (h : a < 18446744073709551616) : IntKind.u64.wrap ((BitVec.ofInt 64 (if IntKind.u64.signed = true then -1 else IntKind.u64.max) ^^^ BitVec.ofInt 64 ((a : Nat) : Int)).toNat) = ((18446744073709551616 - 1 - a : Nat) : Int) := by
 show IntKind.u64.wrap ((BitVec.ofInt 64 (18446744073709551616 - 1 : Int) ^^^ BitVec.ofInt 64 (a : Int)).toNat) = _
 rw [B3q, show BitVec.ofInt 64 (18446744073709551616 - 1 : Int) = BitVec.allOnes 64 from by decide, BitVec.allOnes_xor, R4, BitVec.toNat_not, BitVec.toNat_ofNat]
 congr 1
 omega

theorem C33 (s : ByteArray) (rest : List UInt8) (h : Suf s rest) (hs : s.size < 4611686018427387904) : Meets Tryz.prog E0 A07 [.ptr 0 0] [(0, pst s rest)] (.tp [E0a (A15 rest).1, Bo (A15 rest).2.1]) [(0, pst s (A15 rest).2.2)] := by
 have hsuf : Suf s (K0 94 rest).2 := (A30 94 rest).trans h
 unfold A15
 generalize hsk : K0 94 rest = sk at *
 generalize hx : S3 sk.2 false 0 = x
 refine B4g (by simp) (C2 (by simp [B5, AV.ids, A4, I3, pst, cwL]) (by simp [Ob.live, Ob.ids, A4, B5, AV.ids, I3, pst, cwL])) (C2 (by simp [B5, AV.ids, A4, I3, pst, cwL]) (by simp [Ob.live, Ob.ids, A4, B5, AV.ids, I3, pst, cwL])) (by simp [A4]) (by simp [A4]) ?_
 simp only [go_sem, A5p]
 refine oB (A21 0 94 s rest h hs) ?_
 rw [hsk]
 simp only [go_sem]
 refine C8 (fun i : List UInt8 × Nat × Nat => i.1.length) (fun i => Suf s i.1 ∧ i.2.1 + i.1.length ≤ s.size ∧ i.2.2 < 2 ^ 256 ∧ S3 i.1 (decide (0 < i.2.1)) i.2.2 = x)
  (fun i => [(0, .ptr 0 0), (2, .ptr 100 0), (4, .ptr 102 0), (5, Bo sk.1), (6, I i.2.1)])
  (fun i => [(0, pst s i.1), (100, .box (I3 0)), (102, .box (I3 i.2.2))])
  (sk.2, 0, 0) ⟨hsuf, by have := hsuf.len; simpa using this, Nat.two_pow_pos _, by simpa using hx⟩ ?_ ?_
 ·exact (A2y [] [])
 ·rintro ⟨l, k, n⟩ ⟨hl, hk, hn, hr⟩
  simp only at hl hk hn hr
  simp only [go_sem]
  refine oB (A6a 0 s l hl hs) ?_
  cases l with
  | nil =>
   simp only [S3] at hr
   subst hr
   simp only [go_sem, A3w]
   refine A8v [] [] ?_
   simp only [go_sem, Q9, exists_eq_left', Option.some.injEq]
   simp [G1, G2, B1, AV.asOwn, B3, A9, AV.isNil, J8, B6, B4, B8]
  | cons c r =>
   have hc := A7n c
   have hlr : Suf s r := hl.tail
   have hlen := hl.len
   simp at hlen hk
   cases h93 : decide (c.toNat = 93)
   ·simp at h93
    simp only [go_sem, A3w, show decide (c.toNat = 93) = false from by simp [h93]]
    refine oB (C3g 0 s r hlr hs) ?_
    have ek : IntKind.i64.wrap ((k : Int) + 1) = ((k + 1 : Nat) : Int) := by rw [A5 (by omega) (by omega)]; omega
    cases hrg : U5 r
    ·have d1 : decide (c.toNat < c.toNat) = false := by simp
     rw [B2y c r _ n h93 hrg, show n ||| 2 ^ c.toNat = A1j n c.toNat 1 from rfl] at hr
     simp only [go_sem, d1]
     refine oB (A8f 102 n c.toNat c.toNat hn hc hc) ?_
     simp only [go_sem, ek]
     refine C3 (r, k + 1, A1j n c.toNat (c.toNat + 1 - c.toNat)) (by simp) ⟨hlr, by simp only; omega, A86 _ _ _ hn (by omega), by rw [Nat.add_sub_cancel_left]; simpa using hr⟩ ?_
     exact (A2y [] [])
    ·obtain ⟨d, x2, r', rfl⟩ := B3k hrg
     rw [A80 c d x2 r' _ n h93 hrg] at hr
     simp at hlen hk
     obtain ⟨g1, g2, g3⟩ := C0l hlr
     simp only [List.length_cons] at g1 g2 g3
     have e1 : IntKind.i64.wrap (((s.size - (r'.length + 1 + 1) : Nat) : Int) + 1) = ((s.size - (r'.length + 1) : Nat) : Int) := by rw [A5 (by omega) (by omega)]; omega
     simp only [go_sem, e1]
     refine oB (A6a 0 s (x2 :: r') hlr.tail hs) ?_
     have hx2 := A7n x2
     cases hlt : decide (x2.toNat < c.toNat)
     ·rw [if_neg (by simpa using hlt)] at hr
      simp only [go_sem, A3w, hlt]
      refine oB (A8f 102 n c.toNat x2.toNat hn hc hx2) ?_
      simp only [go_sem, ek]
      refine C3 (r', k + 1, A1j n c.toNat (x2.toNat + 1 - c.toNat)) (by simp; omega) ⟨hlr.tail.tail, by simp only; omega, A86 _ _ _ hn (by omega), by simpa using hr⟩ ?_
      exact (A2y [] [])
     ·rw [if_pos (by simpa using hlt)] at hr
      subst hr
      simp only [go_sem, A3w, hlt]
      refine A8v [] [] ?_
      simp only [go_sem, Q9, exists_eq_left', Option.some.injEq]
      simp [G1, G2, B1, AV.asOwn, B3, A9, AV.isNil, J8, B6, B4, B8]
   ·simp at h93
    rw [B2w c r _ n h93] at hr
    subst hr
    cases hk0 : decide (k = 0)
    ·simp at hk0
     simp only [go_sem, A3w, h93, show decide ((k : Int) = 0) = false from by simp [hk0], decide_true]
     have hkp : 0 < k := by omega
     cases hs1 : sk.1
     ·simp only [go_sem, hs1]
      refine A8v [] [] ?_
      simp only [go_sem, Q9, exists_eq_left', Option.some.injEq]
      simp [G1, G2, B1, AV.asOwn, B3, A9, AV.isNil, J8, B6, B4, B8, hkp]
     ·simp only [go_sem, hs1]
      refine C8 (fun j : Nat => 4 - j) (fun j => j ≤ 4)
       (fun j => [(0, .ptr 0 0), (2, .ptr 100 0), (4, .ptr 102 0), (36, I j)])
       (fun j => [(0, pst s r), (100, .box (I3 0)), (102, .box (cwL n j))]) 0 (by omega) ?_ ?_
      ·rw [D8l]
       exact (A2y [] [])
      ·intro j hj
       have j4 : j = 0 ∨ j = 1 ∨ j = 2 ∨ j = 3 ∨ j = 4 := by omega
       rcases j4 with rfl | rfl | rfl | rfl | rfl
       ·have hw := C3v (A59 n 0)
        ((try simp only [go_sem, cwL, show decide (((0 : Nat) : Int) < 4) = true from rfl, show (((0 : Nat) : Int) < ((4 : Nat) : Int)) from by decide, hw]); repeat (simp (disch := omega) only [A5, C4, C1, J1, J6]; (try simp only [go_sem, cwL, show decide (((0 : Nat) : Int) < 4) = true from rfl, show (((0 : Nat) : Int) < ((4 : Nat) : Int)) from by decide, hw])))
        refine C3 1 (by first | omega | (simp only; omega)) (by first | omega | (simp only; omega)) ?_
        exact (A2y [] [])
       ·have hw := C3v (A59 n 1)
        ((try simp only [go_sem, cwL, show decide (((1 : Nat) : Int) < 4) = true from rfl, show (((1 : Nat) : Int) < ((4 : Nat) : Int)) from by decide, hw]); repeat (simp (disch := omega) only [A5, C4, C1, J1, J6]; (try simp only [go_sem, cwL, show decide (((1 : Nat) : Int) < 4) = true from rfl, show (((1 : Nat) : Int) < ((4 : Nat) : Int)) from by decide, hw])))
        refine C3 2 (by first | omega | (simp only; omega)) (by first | omega | (simp only; omega)) ?_
        exact (A2y [] [])
       ·have hw := C3v (A59 n 2)
        ((try simp only [go_sem, cwL, show decide (((2 : Nat) : Int) < 4) = true from rfl, show (((2 : Nat) : Int) < ((4 : Nat) : Int)) from by decide, hw]); repeat (simp (disch := omega) only [A5, C4, C1, J1, J6]; (try simp only [go_sem, cwL, show decide (((2 : Nat) : Int) < 4) = true from rfl, show (((2 : Nat) : Int) < ((4 : Nat) : Int)) from by decide, hw])))
        refine C3 3 (by first | omega | (simp only; omega)) (by first | omega | (simp only; omega)) ?_
        exact (A2y [] [])
       ·have hw := C3v (A59 n 3)
        ((try simp only [go_sem, cwL, show decide (((3 : Nat) : Int) < 4) = true from rfl, show (((3 : Nat) : Int) < ((4 : Nat) : Int)) from by decide, hw]); repeat (simp (disch := omega) only [A5, C4, C1, J1, J6]; (try simp only [go_sem, cwL, show decide (((3 : Nat) : Int) < 4) = true from rfl, show (((3 : Nat) : Int) < ((4 : Nat) : Int)) from by decide, hw])))
        refine C3 4 (by first | omega | (simp only; omega)) (by first | omega | (simp only; omega)) ?_
        exact (A2y [] [])
       ·simp only [go_sem, show decide (((4 : Nat) : Int) < 4) = false from rfl]
        rw [D73 hn]
        simp only [go_sem]
        refine A8v [] [] ?_
        simp only [go_sem, Q9, exists_eq_left', Option.some.injEq]
        simp [G1, G2, B1, AV.asOwn, B3, A9, AV.isNil, J8, B6, B4, B8, hkp]
    ·simp at hk0
     subst hk0
     simp only [go_sem, A3w, h93, decide_true, show decide (((0 : Nat) : Int) = 0) = true from rfl]
     refine A8v [] [] ?_
     simp only [go_sem, Q9, exists_eq_left', Option.some.injEq]
     simp [G1, G2, B1, AV.asOwn, B3, A9, AV.isNil, J8, B6, B4, B8]

theorem A8d {io : List Nat} {env : List (Nat × AV)} {sto : List (Nat × Ob)} {res : List RV} {r : AV} {e : Exit} {outs : List (Nat × Ob)} (rn : List (Nat × Nat)) (sn : List Nat) (hr : ∃ raw, (B6n env sto res).map A8t = some raw ∧ G1 (A9 sto) sn (ren rn) raw r) (he : e = .ret ∨ e = .normal := by first | exact Or.inl rfl | exact Or.inr rfl)
  (hi : ∀ i ∈ r.ids, i ∈ A4 outs := by simp [AV.ids, B5, A4]) (h2 : A1t sto sn rn outs outs := by simp [A1t, wkO, B69, C17, A9, ren, A4, Ob.ids, G1, G2, AV.one, B5, AV.ids, I3, pst] <;> assumption) (h3 : ((A4 outs).map (ren rn)).Nodup := by simp [A4, ren])
  (h4 : ∀ i ∈ sn, 100 ≤ i ∧ A2d (A9 sto i) = true ∧ ∀ j ∈ A4 outs, ren rn j ≠ i := by simp [A9, A4, ren]) (h5 : ∀ i ∈ io, ren rn i = i := by simp [A4, ren]) (h6 : ∀ i ∈ A4 outs, ren rn i ∈ io → i = ren rn i := by simp [A4, ren]) :
  A7q io res r outs e ⟨H1 env, A9 sto⟩ := wO rn sn hr he hi h2 h3 h4 h5 h6

theorem C0z {io : List Nat} {env : List (Nat × AV)} {sto : List (Nat × Ob)} {env' : List (Nat × AV)} {sto' : List (Nat × Ob)} (rn : List (Nat × Nat)) (sn : List Nat)
  (h1 : A6s sto sn rn env sto' env' := by simp [A6s, go_sem, G1, G2, AV.ids, B5, A4, ren, A9, B1, AV.asOwn, B3, AV.isNil, J8, B6, B4, B8, A2j, I3, pst] <;> assumption)
  (h2 : A1t sto sn rn sto' sto' := by simp [A1t, go_sem, G1, G2, wkO, AV.ids, Ob.ids, B5, A4, ren, AV.one, A9, B1, AV.asOwn, B3, AV.isNil, J8, B6, B4, B8, A2j, I3, pst] <;> assumption)
  (h3 : ((A4 sto').map (ren rn)).Nodup := by simp [A4, ren]) (h4 : ∀ i ∈ sn, 100 ≤ i ∧ A2d (A9 sto i) = true ∧ ∀ j ∈ A4 sto', ren rn j ≠ i := by simp [A9, A4, ren])
  (h5 : ∀ i ∈ io, ren rn i = i := by simp [A4, ren]) (h6 : ∀ i ∈ A4 sto', ren rn i ∈ io → i = ren rn i := by simp [A4, ren]) :
  Sub io ⟨H1 env, A9 sto⟩ ⟨H1 env', A9 sto'⟩ := C0t rn sn h1 h2 h3 h4 h5 h6

theorem C5l (id : Nat) (s : ByteArray) (rest : List UInt8) (h : Suf s rest) (hs : s.size < 4611686018427387904) : Meets Tryz.prog E0 A07 [.ptr id 0] [(id, pst s rest)] (.tp [E0a (A15 rest).1, Bo (A15 rest).2.1]) [(id, pst s (A15 rest).2.2)] := by
 have := (C33 s rest h hs).ren (fun _ => id) (by simp [A4])
 exact this

theorem C5i (s : ByteArray) (c : UInt8) (r : List UInt8) (h : Suf s (c :: r)) (hs : s.size < 4611686018427387904) : Meets Tryz.prog E0 A0v [.ptr 0 0] [(0, pst s (c :: r))] (.tp [E0a (R2 (c :: r)).1, Bo (R2 (c :: r)).2.1]) [(0, pst s (R2 (c :: r)).2.2)] := by
 have hc := A7n c
 refine B5f (by simp) (C2 (by simp [B5, AV.ids, A4, I3, pst]) (by simp [Ob.live, Ob.ids, A4, B5, AV.ids, I3, pst])) (C2 (by simp [B5, AV.ids, A4, I3, pst]) (by simp [Ob.live, Ob.ids, A4, B5, AV.ids, I3, pst])) (by simp [A4]) (by simp [A4]) ?_
 simp only [go_sem, A6g]
 refine oB (A6a 0 s (c :: r) h hs) ?_
 by_cases hb : c.toNat = 94 ∨ c.toNat = 36 ∨ c.toNat = 42 ∨ c.toNat = 93
 ·rw [show R2 (c :: r) = (0, false, r) from by simp only [R2, if_pos hb]]
  rcases hb with hb | hb | hb | hb
  all_goals
   simp only [go_sem, A3w, hb]
   refine A8d [] [] ?_
   simp only [go_sem, O8, exists_eq_left', Option.some.injEq]
   simp [G1, G2, B1, AV.asOwn, B3, A9, AV.isNil, J8, B6, B4, B8]
 ·have b1 : decide (c.toNat = 94) = false := by simp; omega
  have b2 : decide (c.toNat = 36) = false := by simp; omega
  have b3 : decide (c.toNat = 42) = false := by simp; omega
  have b4 : decide (c.toNat = 93) = false := by simp; omega
  by_cases h46 : c.toNat = 46
  ·rw [show R2 (c :: r) = (C8y, true, r) from by simp only [R2, if_neg hb, if_pos h46]]
   simp only [go_sem, A3w, b1, b2, b3, b4, h46]
   refine oB (A8f 102 0 0 255 (Nat.two_pow_pos _) (by decide) (by decide)) ?_
   rw [show 255 + 1 - 0 = 256 from rfl, D92]
   simp only [go_sem]
   refine A8d [] [] ?_
   simp only [go_sem, O8, exists_eq_left', Option.some.injEq]
   simp [G1, G2, B1, AV.asOwn, B3, A9, AV.isNil, J8, B6, B4, B8]
  have b5 : decide (c.toNat = 46) = false := by simp; omega
  by_cases h91 : c.toNat = 91
  ·rw [show R2 (c :: r) = A15 r from by simp only [R2, if_neg hb, if_neg h46, if_pos h91]]
   simp only [go_sem, A3w, b1, b2, b3, b4, b5, h91]
   refine oB (C5l 0 s r h.tail hs) ?_
   simp only [go_sem]
   refine A8d [] [] ?_
   simp only [go_sem, O8, exists_eq_left', Option.some.injEq]
   simp [G1, G2, B1, AV.asOwn, B3, A9, AV.isNil, J8, B6, B4, B8]
  have b6 : decide (c.toNat = 91) = false := by simp; omega
  by_cases h92 : c.toNat = 92
  ·simp only [go_sem, A3w, b1, b2, b3, b4, b5, b6, h92]
   refine oB (A6a 0 s r h.tail hs) ?_
   cases r with
   | nil =>
    rw [show R2 [c] = (1, false, []) from by simp only [R2, if_neg hb, if_neg h46, if_neg h91, if_pos h92]]
    simp only [go_sem, A3w]
    refine oB (A8f 102 0 0 0 (Nat.two_pow_pos _) (by decide) (by decide)) ?_
    rw [show A1j 0 0 (0 + 1 - 0) = 1 from rfl]
    simp only [go_sem]
    refine A8d [] [] ?_
    simp only [go_sem, O8, exists_eq_left', Option.some.injEq]
    simp [G1, G2, B1, AV.asOwn, B3, A9, AV.isNil, J8, B6, B4, B8]
   | cons d r =>
    have hd := A7n d
    rw [show R2 (c :: d :: r) = (2 ^ d.toNat, true, r) from by simp only [R2, if_neg hb, if_neg h46, if_neg h91, if_pos h92]]
    simp only [go_sem, A3w]
    refine oB (A8f 102 0 d.toNat d.toNat (Nat.two_pow_pos _) hd hd) ?_
    rw [Nat.add_sub_cancel_left, D4d]
    simp only [go_sem]
    refine A8d [] [] ?_
    simp only [go_sem, O8, exists_eq_left', Option.some.injEq]
    simp [G1, G2, B1, AV.asOwn, B3, A9, AV.isNil, J8, B6, B4, B8]
  have b7 : decide (c.toNat = 92) = false := by simp; omega
  rw [show R2 (c :: r) = (2 ^ c.toNat, true, r) from by simp only [R2, if_neg hb, if_neg h46, if_neg h91, if_neg h92]]
  simp only [go_sem, A3w, b1, b2, b3, b4, b5, b6, b7]
  refine oB (A8f 102 0 c.toNat c.toNat (Nat.two_pow_pos _) hc hc) ?_
  rw [Nat.add_sub_cancel_left, D4d]
  simp only [go_sem]
  refine A8d [] [] ?_
  simp only [go_sem, O8, exists_eq_left', Option.some.injEq]
  simp [G1, G2, B1, AV.asOwn, B3, A9, AV.isNil, J8, B6, B4, B8]

theorem B7l (id : Nat) (s : ByteArray) (c : UInt8) (r : List UInt8) (h : Suf s (c :: r)) (hs : s.size < 4611686018427387904) : Meets Tryz.prog E0 A0v [.ptr id 0] [(id, pst s (c :: r))] (.tp [E0a (R2 (c :: r)).1, Bo (R2 (c :: r)).2.1]) [(id, pst s (R2 (c :: r)).2.2)] := by
 have := (C5i s c r h hs).ren (fun _ => id) (by simp [A4])
 exact this

theorem C1a (s : ByteArray) (hs : s.size < 4611686018427387904) : Meets Tryz.prog E0 A39 [.t (.v (.string s))] [] (.tp [B6l (F6 s.data.toList).1.1 (F6 s.data.toList).1.2.1 (F6 s.data.toList).1.2.2, I (F6 s.data.toList).2]) [] := by
 refine X6 B2f ?_
 simp only [go_sem, A64]
 refine G3 rfl (fun h1 => ?_) (fun h1 => ?_)
 ·simp at h1
  have hc : F6 s.data.toList = ((false, false, []), 12) := by unfold F6; rw [if_pos (by rw [A3k]; omega)]
  rw [hc]
  simp only [go_sem]
  refine wS [] ?_
  simp only [go_sem, Q2, exists_eq_left', Option.some.injEq]
  simp [G1, G2, B1, AV.asOwn, B3, A9, AV.isNil, J8, B6, B4, B8]
 ·simp at h1
  have hall := Suf.all s
  have hc : F6 s.data.toList = (match A1s (s.size + 1) (K0 94 s.data.toList).2 [] with
   | none => ((false, false, []), 10)
   | some (e, is) => (((K0 94 s.data.toList).1, e, is), 0)) := by unfold F6; rw [A3k, if_neg (by omega)] <;> rfl
  have hsuf : Suf s (K0 94 s.data.toList).2 := (A30 94 _).trans hall
  rw [hc]
  simp only [go_sem]
  refine D8h (A21 110 94 s _ hall hs) (by simp [A4, A9, A3k]) (by simp [A4]) (by simp [A4]) ?_
  generalize hsk : K0 94 s.data.toList = sk at *
  generalize hout : A1s (s.size + 1) sk.2 [] = out
  simp only [go_sem]
  refine C8 (fun i : List UInt8 × List R6 => i.1.length) (fun i => Suf s i.1 ∧ i.2.length + i.1.length ≤ 64 ∧ ∃ f, i.1.length < f ∧ A1s f i.1 i.2 = out)
   (fun i => [(0, .t (.v (.string s))), (2, .ptr 100 0), (4, .ptr 110 0), (5, .ptr 115 0)])
   (fun i => [(100, .box [Bo false, Bo false, .t (.v (.slice none 0 0))]), (110, pst s i.1), (115, .box [Bo sk.1, Bo false, .own 999 5 0 i.2.length (!i.2.isEmpty)]), (999, .row 5 (!i.2.isEmpty) (i.2.map T9))])
   (sk.2, []) ⟨hsuf, by have := hsuf.len; simp; omega, s.size + 1, by have := hsuf.len; simp; omega, hout⟩ ?_ ?_
  ·exact (C0z [] [])
  ·rintro ⟨l, acc⟩ ⟨hl, hk, f, hf, hr⟩
   simp only at hl hk hf hr
   simp only [go_sem]
   refine oB (B1e 110 s l hl) ?_
   obtain ⟨f, rfl⟩ : ∃ g, f = g + 1 := ⟨f - 1, by omega⟩
   cases l with
   | nil =>
    simp only [A1s] at hr
    subst hr
    simp only [go_sem, List.isEmpty_nil]
    cases hacc : acc with
    | nil =>
     refine wS [] ?_
     simp only [go_sem, Q2, exists_eq_left', Option.some.injEq]
     simp [G1, G2, B1, AV.asOwn, B3, A9, AV.isNil, J8, B6, B4, B8]
    | cons a acc =>
     refine wS [999] ?_
     simp only [go_sem, Q2, exists_eq_left', Option.some.injEq]
     simp [G1, G2, B1, AV.asOwn, B3, A9, AV.isNil, J8, B6, B4, B8, List.take_of_length_le]
   | cons c r =>
    have hlen := hl.len
    simp only [List.length_cons] at hlen hk hf
    by_cases hd : r = [] ∧ c.toNat = 36
    ·obtain ⟨rfl, hc36⟩ := hd
     simp only [A1s, hc36, and_self, if_true] at hr
     subst hr
     simp only [List.length_nil] at hlen
     have e1 : IntKind.i64.wrap ((s.size : Int) - 1) = ((s.size - 1 : Nat) : Int) := by rw [A5 (by omega) (by omega)]; omega
     simp only [go_sem, e1, decide_true]
     refine oB (A21 110 36 s [c] hl hs) ?_
     simp only [go_sem, K0, hc36]
     cases hacc : acc with
     | nil =>
      refine wS [] ?_
      simp only [go_sem, Q2, exists_eq_left', Option.some.injEq]
      simp [G1, G2, B1, AV.asOwn, B3, A9, AV.isNil, J8, B6, B4, B8]
     | cons a acc =>
      refine wS [999] ?_
      simp only [go_sem, Q2, exists_eq_left', Option.some.injEq]
      simp [G1, G2, B1, AV.asOwn, B3, A9, AV.isNil, J8, B6, B4, B8, List.take_of_length_le]
    ·simp only [A1s, if_neg hd] at hr
     obtain hr0 | hr0 : r.length = 0 ∨ 0 < r.length := by omega
     ·have e1 : IntKind.i64.wrap ((s.size : Int) - 1) = ((s.size - (r.length + 1) : Nat) : Int) := by rw [A5 (by omega) (by omega)]; omega
      have hn36 : ¬ c.toNat = 36 := fun h => hd ⟨List.eq_nil_of_length_eq_zero hr0, h⟩
      simp only [go_sem, e1, decide_true]
      refine oB (A21 110 36 s (c :: r) hl hs) ?_
      rw [show K0 36 (c :: r) = (false, c :: r) from by simp [K0, hn36]]
      simp only [go_sem]
      refine oB (B7l 110 s c r hl hs) ?_
      have hat := B6d c r
      have hal := D1q (c :: r)
      generalize R2 (c :: r) = x at *
      obtain ⟨n, ok, r1⟩ := x
      cases ok with
      | false =>
       simp only [Bool.false_eq_true, if_false] at hr
       subst hr
       simp only [go_sem]
       refine wS [] ?_
       simp only [go_sem, Q2, exists_eq_left', Option.some.injEq]
       simp [G1, G2, B1, AV.asOwn, B3, A9, AV.isNil, J8, B6, B4, B8]
      | true =>
       simp only [if_true] at hr hat hal
       have hs1 : Suf s r1 := hat.trans hl.tail
       have hle := hat.length_le
       have hsf := (A30 42 r1).length_le
       simp only [go_sem]
       refine oB (A21 110 42 s r1 hs1 hs) ?_
       have b1 : (acc.length + 1) * 40 ≤ 2 ^ 47 := by omega
       have b2 : acc.length + 1 < 2 ^ 47 := by omega
       have e2 : acc.map T9 ++ [T9 (n, (K0 42 r1).1)] = (acc ++ [(n, (K0 42 r1).1)]).map T9 := by simp
       simp only [T9] at e2
       simp only [go_sem, b1, b2]
       refine D04 ?_ ?_
       ·repeat' (first | exact D78 | refine okp rfl rfl rfl ?_)
       simp only [go_sem, e2]
       refine C3 ((K0 42 r1).2, acc ++ [(n, (K0 42 r1).1)]) (by simp; omega) ⟨(A30 42 r1).trans hs1, by simp; omega, f, by simp; omega, hr⟩ ?_
       exact (C0z [(999, 153)] [])
     ·have e1 : IntKind.i64.wrap ((s.size : Int) - 1) = ((s.size - 1 : Nat) : Int) := by rw [A5 (by omega) (by omega)]; omega
      have d1 : decide (s.size - (r.length + 1) = s.size - 1) = false := by simp; omega
      simp only [go_sem, e1, d1]
      refine oB (B7l 110 s c r hl hs) ?_
      have hat := B6d c r
      have hal := D1q (c :: r)
      generalize R2 (c :: r) = x at *
      obtain ⟨n, ok, r1⟩ := x
      cases ok with
      | false =>
       simp only [Bool.false_eq_true, if_false] at hr
       subst hr
       simp only [go_sem]
       refine wS [] ?_
       simp only [go_sem, Q2, exists_eq_left', Option.some.injEq]
       simp [G1, G2, B1, AV.asOwn, B3, A9, AV.isNil, J8, B6, B4, B8]
      | true =>
       simp only [if_true] at hr hat hal
       have hs1 : Suf s r1 := hat.trans hl.tail
       have hle := hat.length_le
       have hsf := (A30 42 r1).length_le
       simp only [go_sem]
       refine oB (A21 110 42 s r1 hs1 hs) ?_
       have b1 : (acc.length + 1) * 40 ≤ 2 ^ 47 := by omega
       have b2 : acc.length + 1 < 2 ^ 47 := by omega
       have e2 : acc.map T9 ++ [T9 (n, (K0 42 r1).1)] = (acc ++ [(n, (K0 42 r1).1)]).map T9 := by simp
       simp only [T9] at e2
       simp only [go_sem, b1, b2]
       refine D04 ?_ ?_
       ·repeat' (first | exact D78 | refine okp rfl rfl rfl ?_)
       simp only [go_sem, e2]
       refine C3 ((K0 42 r1).2, acc ++ [(n, (K0 42 r1).1)]) (by simp; omega) ⟨(A30 42 r1).trans hs1, by simp; omega, f, by simp; omega, hr⟩ ?_
       exact (C0z [(999, 153)] [])

theorem B61 {io : List Nat} {env : List (Nat × AV)} {sto : List (Nat × Ob)} {res : List RV} {r : AV} {e : Exit} {outs : List (Nat × Ob)} (rn : List (Nat × Nat)) (sn : List Nat) (hr : ∃ raw, (B6n env sto res).map A8t = some raw ∧ G1 (A9 sto) sn (ren rn) raw r) (he : e = .ret ∨ e = .normal := by first | exact Or.inl rfl | exact Or.inr rfl)
  (hi : ∀ i ∈ r.ids, i ∈ A4 outs := by simp [AV.ids, B5, A4]) (h2 : A1t sto sn rn outs outs := by simp [A1t, wkO, B69, C17, A9, ren, A4, Ob.ids, G1, G2, AV.one, B5, AV.ids, I3, pst] <;> assumption) (h3 : ((A4 outs).map (ren rn)).Nodup := by simp [A4, ren])
  (h4 : ∀ i ∈ sn, 100 ≤ i ∧ A2d (A9 sto i) = true ∧ ∀ j ∈ A4 outs, ren rn j ≠ i := by simp [A9, A4, ren]) (h5 : ∀ i ∈ io, ren rn i = i := by simp [A4, ren]) (h6 : ∀ i ∈ A4 outs, ren rn i ∈ io → i = ren rn i := by simp [A4, ren]) :
  A7q io res r outs e ⟨H1 env, A9 sto⟩ := wO rn sn hr he hi h2 h3 h4 h5 h6

theorem A0i {io : List Nat} {env : List (Nat × AV)} {sto : List (Nat × Ob)} {env' : List (Nat × AV)} {sto' : List (Nat × Ob)} (rn : List (Nat × Nat)) (sn : List Nat)
  (h1 : A6s sto sn rn env sto' env' := by simp [A6s, go_sem, G1, G2, AV.ids, B5, A4, ren, A9, B1, AV.asOwn, B3, AV.isNil, J8, B6, B4, B8, A2j, I3, pst] <;> assumption)
  (h2 : A1t sto sn rn sto' sto' := by simp [A1t, go_sem, G1, G2, wkO, AV.ids, Ob.ids, B5, A4, ren, AV.one, A9, B1, AV.asOwn, B3, AV.isNil, J8, B6, B4, B8, A2j, I3, pst] <;> assumption)
  (h3 : ((A4 sto').map (ren rn)).Nodup := by simp [A4, ren]) (h4 : ∀ i ∈ sn, 100 ≤ i ∧ A2d (A9 sto i) = true ∧ ∀ j ∈ A4 sto', ren rn j ≠ i := by simp [A9, A4, ren])
  (h5 : ∀ i ∈ io, ren rn i = i := by simp [A4, ren]) (h6 : ∀ i ∈ A4 sto', ren rn i ∈ io → i = ren rn i := by simp [A4, ren]) :
  Sub io ⟨H1 env, A9 sto⟩ ⟨H1 env', A9 sto'⟩ := C0t rn sn h1 h2 h3 h4 h5 h6

theorem B74 (l : List Bool) (n : Nat) (h : l.length = n) : (l.map bT).take n = l.map bT := by rw [List.take_of_length_le]; simp [h]

theorem C5b (l : List Bool) (i : Nat) (h : i < l.length) : (l.map bT)[i]? = some (bT (l.getD i false)) := by
 rw [List.getElem?_map, List.getD_eq_getElem?_getD, List.getElem?_eq_getElem h]; rfl

theorem D05 {is : List R6} {i : Nat} {x : R6} (h : is[i]? = some x) : V2 is i = x.2 ∧ ∀ b, B8v is i b = x.1.testBit b := by
 simp [V2, B8v, h]

theorem C37 (is : List R6) (hn : is.length ≤ 100000) : ∀ (s : List Bool) (i : Nat), s.length = is.length + 1 → i ≤ is.length →
  Meets Tryz.prog E0 M3 [.own 0 1 0 (is.length + 1) true, A5x is, I i] [(0, .row 1 true (s.map bT))] (.tp []) [(0, .row 1 true ((A0x is (is.length + 1) i s).map bT))] := by
 intro s i hs hi
 generalize hout : A0x is (is.length + 1) i s = out
 refine B4k (by simp) (C2 (by simp [B5, AV.ids, A4, I3, pst]) (by simp [Ob.live, Ob.ids, A4, B5, AV.ids, I3, pst])) (C2 (by simp [B5, AV.ids, A4, I3, pst]) (by simp [Ob.live, Ob.ids, A4, B5, AV.ids, I3, pst])) (by simp [A4]) (by simp [A4]) ?_
 simp only [go_sem, A5n]
 refine C8 (fun x : Nat × List Bool => is.length + 1 - x.1) (fun x => x.1 ≤ is.length ∧ x.2.length = is.length + 1 ∧ ∃ f, is.length < x.1 + f ∧ A0x is f x.1 x.2 = out)
  (fun x => [(0, .own 0 1 0 (is.length + 1) true), (1, A5x is), (2, I x.1)])
  (fun x => [(0, .row 1 true (x.2.map bT))])
  (i, s) ⟨hi, hs, is.length + 1, by simp only; omega, hout⟩ ?_ ?_
 ·exact (A0i [] [])
 ·rintro ⟨i, s⟩ ⟨hi, hs, f, hf, hr⟩
  simp only at hi hs hf hr
  have hg := C5b s i (by omega)
  have q1 : (i : Int) < ((is.length + 1 : Nat) : Int) := by omega
  obtain ⟨f, rfl⟩ : ∃ g, f = g + 1 := ⟨f - 1, by omega⟩
  simp only [A0x] at hr
  cases hsi : s.getD i false
  ·simp only [hsi, Bool.false_eq_true, if_false] at hr
   have e0 : (s.map bT).set i (bT true) = (s.set i true).map bT := by simp
   simp only [go_sem, q1, hg, hsi, e0]
   obtain hin | hin : i = is.length ∨ i < is.length := by omega
   ·subst hin
    have hst : V2 is is.length = false := by simp [V2]
    simp only [hst, Bool.false_eq_true, if_false] at hr
    subst hr
    simp only [go_sem, decide_true]
    refine B61 [] [] ?_
    simp only [go_sem, A09, exists_eq_left', Option.some.injEq]
    simp [G1, G2, B1, AV.asOwn, B3, A9, AV.isNil, J8, B6, B4, B8]
   ·obtain ⟨x, hx⟩ := F0 hin
    obtain ⟨h1, h2⟩ := D05 hx
    have d1 : decide (i = is.length) = false := by simp; omega
    have ei : IntKind.i64.wrap ((i : Int) + 1) = ((i + 1 : Nat) : Int) := by rw [A5 (by omega) (by omega)]; omega
    rw [h1] at hr
    cases hx2 : x.2
    ·simp only [hx2, Bool.false_eq_true, if_false] at hr
     subst hr
     simp only [go_sem, d1, hx, T9, hx2]
     refine B61 [] [] ?_
     simp only [go_sem, A09, exists_eq_left', Option.some.injEq]
     simp [G1, G2, B1, AV.asOwn, B3, A9, AV.isNil, J8, B6, B4, B8]
    ·simp only [hx2, if_true] at hr
     simp only [go_sem, d1, hx, T9, hx2, ei]
     refine C3 (i + 1, s.set i true) (by simp; omega) ⟨by simp; omega, by simpa using hs, f, by simp; omega, hr⟩ ?_
     exact (A0i [] [])
  ·simp only [hsi, if_true] at hr
   subst hr
   simp only [go_sem, q1, hg, hsi]
   refine B61 [] [] ?_
   simp only [go_sem, A09, exists_eq_left', Option.some.injEq]
   simp [G1, G2, B1, AV.asOwn, B3, A9, AV.isNil, J8, B6, B4, B8]

theorem A99 (id : Nat) (is : List R6) (hn : is.length ≤ 100000) (s : List Bool) (i : Nat) (hs : s.length = is.length + 1) (hi : i ≤ is.length) :
  Meets Tryz.prog E0 M3 [.own id 1 0 (is.length + 1) true, A5x is, I i] [(id, .row 1 true (s.map bT))] (.tp []) [(id, .row 1 true ((A0x is (is.length + 1) i s).map bT))] := by
 have := (C37 is hn s i hs hi).ren (fun _ => id) (by simp [A4])
 exact this

theorem D1t (n b : Nat) (hb : b < 256) : (S6 n (b / 64)).testBit (b % 64) = n.testBit b := by
 rw [A5g _ _ _ (by omega), show 64 * (b / 64) + b % 64 = b by omega]

theorem E07 (w k : Nat) : (w &&& 2 ^ k == 0) = !w.testBit k := by
 have h : (w &&& 2 ^ k = 0) ↔ w.testBit k = false := by
  constructor
  ·intro h
   have := congrArg (fun x => x.testBit k) h
   simpa [Nat.testBit_and, Nat.testBit_two_pow] using this
  ·intro h
   apply Nat.eq_of_testBit_eq
   intro i
   rw [Nat.testBit_and, Nat.testBit_two_pow, Nat.zero_testBit]
   by_cases hi : k = i
   ·subst hi; simp [h]
   ·simp [hi]
 rw [Bool.eq_iff_iff]; simp [h]

theorem C71 (n b : Nat) (st : Bool) (hb : b < 256) : Meets Tryz.prog E0 B1j [C2i (n, st), U8 b] [] (Bo (n.testBit b)) [] := by
 refine X6 C6k ?_
 have h6 : b / 2 ^ (min 6 8) = b / 64 := rfl
 have hw : ∀ j, S6 n j % 18446744073709551616 = S6 n j := fun j => Nat.mod_eq_of_lt (A59 n j)
 have hab : ∀ w k : Nat, decide (w &&& 2 ^ k = 0) = !w.testBit k := fun w k => E07 w k
 have h63 : b % 256 &&& 63 % 256 = b % 64 := by
  rw [Nat.mod_eq_of_lt hb]; exact Nat.and_two_pow_sub_one_eq_mod b 6
 have hmin : min (b % 64) 64 = b % 64 := Nat.min_eq_left (by omega)
 have p0 : 2 ^ (b % 64) % 18446744073709551616 = 2 ^ (b % 64) := Nat.mod_eq_of_lt (Nat.pow_lt_pow_right (n := 64) (by decide) (by omega))
 have h4 : b / 64 = 0 ∨ b / 64 = 1 ∨ b / 64 = 2 ∨ b / 64 = 3 := by omega
 have i4 : ∀ j : Nat, j < 4 → (j : Int) < ((4 : Nat) : Int) := by omega
 have hg := D1t n b hb
 rcases h4 with h4 | h4 | h4 | h4
 all_goals
  rw [h4] at hg
  simp only [go_sem, B7a, h6, h63, h4, i4 0 (by decide), i4 1 (by decide), i4 2 (by decide), i4 3 (by decide), I3, hmin, p0]
  refine wE ?_
  simp only [go_sem, B7k]
  first | rw [B4y n] | rw [B5q n] | rw [B5n n] | rw [B5c n]
  rw [← hg, hw, hab, Bool.not_not]

theorem B9r (n b : Nat) (st : Bool) (hb : b < 256) : Meets Tryz.prog E0 A87 [C2i (n, st), U8 b] [] (Bo (n.testBit b)) [] := by
 refine X6 D00 ?_
 have hd : b / 64 % 256 = b / 64 := by omega
 have hmin : min (b % 64) 64 = b % 64 := Nat.min_eq_left (by omega)
 have h4 : b / 64 = 0 ∨ b / 64 = 1 ∨ b / 64 = 2 ∨ b / 64 = 3 := by omega
 have i4 : ∀ j : Nat, j < 4 → (j : Int) < ((4 : Nat) : Int) := by omega
 have hg := D1t n b hb
 have h64 : ¬ (64 : Nat) = 0 := by decide
 rcases h4 with h4 | h4 | h4 | h4
 all_goals
  rw [h4] at hg
  simp only [go_sem, C0j, hd, Nat.zero_mod, h4, i4 0 (by decide), i4 1 (by decide), i4 2 (by decide), i4 3 (by decide), I3, hmin, D82 h64, D85 h64]
  refine wE ?_
  simp only [go_sem, C0s]
  first | rw [B4y n] | rw [B5q n] | rw [B5n n] | rw [B5c n]
  rw [← hg, Nat.testBit_eq_decide_div_mod_eq, show (1 : Nat) % 18446744073709551616 = 1 from rfl, Nat.and_one_is_mod]
  simp

theorem B7o (id : Nat) (is : List R6) (hn : is.length ≤ 100000) (s : List Bool) (hs : s.length = is.length + 1) (b : Nat) (hb : b < 256) :
  Meets Tryz.prog E0 A0s [D2m s, A5x is, U8 b] [] (.own id 1 0 (is.length + 1) true) [(id, .row 1 true ((B0d is s b).map bT))] := by
 have h0 : Meets Tryz.prog E0 A0s [D2m s, A5x is, U8 b] [] (.own 0 1 0 (is.length + 1) true) [(0, .row 1 true ((B0d is s b).map bT))] := by
  unfold B0d
  refine B5m (by simp) (C2 (by simp [B5, AV.ids, A4, I3, pst]) (by simp [Ob.live, Ob.ids, A4, B5, AV.ids, I3, pst])) (C2 (by simp [B5, AV.ids, A4, I3, pst]) (by simp [Ob.live, Ob.ids, A4, B5, AV.ids, I3, pst])) (by simp [A4]) (by simp [A4]) ?_
  have b1 : ((1 : Nat) : Int) * ((is.length + 1 : Nat) : Int) ≤ 2 ^ 48 := by omega
  have b2 : ((is.length + 1 : Nat) : Int) < 2 ^ 47 := by omega
  simp only [go_sem, A6l, hs, b1, b2]
  refine C8 (fun k : Nat => is.length - k) (fun k => k ≤ is.length)
   (fun k => [(0, D2m s), (1, A5x is), (2, U8 b), (7, .own 103 1 0 (is.length + 1) true), (13, A5x is), (14, I is.length), (15, I k)])
   (fun k => [(103, .row 1 true ((A1m is s b k).map bT))])
   0 (by omega) ?_ ?_
  ·have e0 : (A1m is s b 0).map bT = List.replicate (is.length + 1) [T.v (.bool false)] := by simp [A1m]
   rw [e0]
   exact (A0i [] [])
  ·intro k hk
   simp only [go_sem]
   refine G3 rfl (fun h1 => ?_) (fun h1 => ?_)
   ·simp at h1
    obtain ⟨x, hx⟩ := F0 h1
    obtain ⟨q1, q2⟩ := D05 hx
    have hg := C5b s k (by omega)
    have ei : IntKind.i64.wrap ((k : Int) + 1) = ((k + 1 : Nat) : Int) := by rw [A5 (by omega) (by omega)]; omega
    have hl := A8b is s b k
    cases hsk : s.getD k false
    ·have hst : A1m is s b (k + 1) = A1m is s b k := by simp only [A1m, hsk, Bool.false_and, Bool.false_eq_true, if_false]
     simp only [go_sem, hx, T9, hg, hsk, ei]
     refine C3 (k + 1) (by first | omega | (simp only; omega)) (by first | omega | (simp only; omega)) ?_
     rw [hst]
     exact (A0i [] [])
    ·simp only [go_sem, hx, T9, hg, hsk]
     refine A6 (C71 x.1 b x.2 hb) ?_
     cases hf : x.1.testBit b
     ·have hst : A1m is s b (k + 1) = A1m is s b k := by simp only [A1m, q2, hf, Bool.and_false, Bool.false_eq_true, if_false]
      simp only [go_sem, hf, ei]
      refine C3 (k + 1) (by first | omega | (simp only; omega)) (by first | omega | (simp only; omega)) ?_
      rw [hst]
      exact (A0i [] [])
     ·have hst : A1m is s b (k + 1) = A0x is (is.length + 1) (if x.2 then k else k + 1) (A1m is s b k) := by simp only [A1m, q2, hf, hsk, q1]; rfl
      cases hx2 : x.2
      ·simp only [hx2, Bool.false_eq_true, if_false] at hst
       simp only [go_sem, hf, hx2, ei]
       refine oB (A99 103 is hn (A1m is s b k) (k + 1) hl (by omega)) ?_
       simp only [go_sem, ei]
       refine C3 (k + 1) (by first | omega | (simp only; omega)) (by first | omega | (simp only; omega)) ?_
       rw [hst]
       exact (A0i [] [])
      ·simp only [hx2, if_true] at hst
       simp only [go_sem, hf, hx2]
       refine oB (A99 103 is hn (A1m is s b k) k hl (by omega)) ?_
       simp only [go_sem, ei]
       refine C3 (k + 1) (by first | omega | (simp only; omega)) (by first | omega | (simp only; omega)) ?_
       rw [hst]
       exact (A0i [] [])
   ·simp at h1
    have e : k = is.length := by omega
    subst e
    simp only [go_sem]
    refine B61 [(0, 103)] [] ?_
    simp only [go_sem, A70, exists_eq_left', Option.some.injEq]
    simp [G1, G2, B1, AV.asOwn, B3, A9, AV.isNil, J8, B6, B4, B8, ren]
 have := h0.ren (fun _ => id) (by simp [A4])
 exact this

theorem A67 (id : Nat) (is : List R6) (hn : is.length ≤ 100000) (s : List Bool) (hs : s.length = is.length + 1) :
  Meets Tryz.prog E0 M3 [.own id 1 0 (is.length + 1) true, A5x is, I 0] [(id, .row 1 true (s.map bT))] (.tp []) [(id, .row 1 true ((A0x is (is.length + 1) 0 s).map bT))] :=
 A99 id is hn s 0 hs (Nat.zero_le _)

theorem C45 (a z : Bool) (is : List R6) (hn : is.length ≤ 100000) (tx : ByteArray) (ht : tx.size < 4611686018427387904) : Meets Tryz.prog E0 A8r [B6l a z is, .t (.v (.string tx))] [] (Bo (B2z a z is tx.data.toList)) [] := by
 generalize hout : B2z a z is tx.data.toList = out
 refine X6 C5u ?_
 have b1 : ((1 : Nat) : Int) * ((is.length + 1 : Nat) : Int) ≤ 2 ^ 48 := by omega
 have b2 : ((is.length + 1 : Nat) : Int) < 2 ^ 47 := by omega
 have ei : IntKind.i64.wrap ((is.length : Int) + 1) = ((is.length + 1 : Nat) : Int) := by rw [A5 (by omega) (by omega)]; omega
 have e0 : List.replicate (is.length + 1) [T.v (.bool false)] = (List.replicate (is.length + 1) false).map bT := by simp
 have q1 : (is.length : Int) < ((is.length + 1 : Nat) : Int) := by omega
 simp only [go_sem, B4n, ei, b1, b2, e0]
 refine oB (A67 108 is hn (List.replicate (is.length + 1) false) (by simp)) ?_
 simp only [go_sem]
 refine C8 (fun x : Nat × List Bool => tx.size - x.1) (fun x => x.1 ≤ tx.size ∧ x.2.length = is.length + 1 ∧ C2r a z is (tx.data.toList.drop x.1) x.2 = out)
  (fun x => [(1, .t (.v (.string tx))), (2, .ptr 100 0), (5, I is.length), (6, .own 999 1 0 (is.length + 1) true), (19, I tx.size), (20, I x.1)])
  (fun x => [(100, .box [Bo a, Bo z, A5x is]), (999, .row 1 true (x.2.map bT))])
  (0, A0x is (is.length + 1) 0 (List.replicate (is.length + 1) false)) ⟨by simp only; omega, by rw [A48]; simp, by rw [← hout]; rfl⟩ ?_ ?_
 ·exact (A0i [(999, 108)] [])
 ·rintro ⟨j, s⟩ ⟨hj, hs, hr⟩
  simp only at hj hs hr
  have hg := C5b s is.length (by omega)
  simp only [go_sem]
  refine G3 rfl (fun h1 => ?_) (fun h1 => ?_)
  ·simp at h1
   obtain ⟨c, hc⟩ := F0 (l := tx.data.toList) (i := j) (by rw [A3k]; exact h1)
   have hc2 : tx[j]? = some c := by rw [C12]; exact hc
   have hcb := A7n c
   have ej : IntKind.i64.wrap ((j : Int) + 1) = ((j + 1 : Nat) : Int) := by rw [A5 (by omega) (by omega)]; omega
   rw [A05 hc] at hr
   simp only [C2r] at hr
   have hsl2 := D6r is s c.toNat
   cases hsl : s.getD is.length false
   ·simp only [hsl, Bool.false_and, Bool.false_eq_true, if_false] at hr
    simp only [go_sem, q1, hg, hsl, hc2]
    refine C7r [999] false (B7o 136 is hn s hs c.toNat hcb) ?_ (by simp [A4]) (by simp [A4, A9]) (by simp [A9, A4]) (by simp) (by simp [A4]) ?_
    ·exact .one (Wk.row (by simp [B1, AV.asOwn, B3, A9, hs, B74 s _ hs]) (by simp)) (.one (Wk.refl _) (.one (Wk.refl _) .nil))
    cases ha : a
    ·simp only [ha, Bool.false_eq_true, if_false] at hr
     simp only [go_sem]
     refine oB (A67 136 is hn (B0d is s c.toNat) hsl2) ?_
     simp only [go_sem, ej]
     refine C3 (j + 1, A0x is (is.length + 1) 0 (B0d is s c.toNat)) (by simp; omega) ⟨by simp; omega, by simp only; rw [A48]; exact hsl2, hr⟩ ?_
     exact (A0i [(999, 136)] [])
    ·simp only [ha, if_true] at hr
     simp only [go_sem, ej]
     refine C3 (j + 1, B0d is s c.toNat) (by simp; omega) ⟨by simp; omega, hsl2, hr⟩ ?_
     exact (A0i [(999, 136)] [])
   ·cases hz : z
    ·subst hz
     simp only [hsl, Bool.true_and, Bool.not_false, if_true] at hr
     subst hr
     simp only [go_sem, q1, hg, hsl]
     refine wE ?_
     simp only [go_sem, A8z]
    ·subst hz
     simp only [hsl, Bool.true_and, Bool.not_true, Bool.false_eq_true, if_false] at hr
     simp only [go_sem, q1, hg, hsl, hc2]
     refine C7r [999] false (B7o 136 is hn s hs c.toNat hcb) ?_ (by simp [A4]) (by simp [A4, A9]) (by simp [A9, A4]) (by simp) (by simp [A4]) ?_
     ·exact .one (Wk.row (by simp [B1, AV.asOwn, B3, A9, hs, B74 s _ hs]) (by simp)) (.one (Wk.refl _) (.one (Wk.refl _) .nil))
     cases ha : a
     ·simp only [ha, Bool.false_eq_true, if_false] at hr
      simp only [go_sem]
      refine oB (A67 136 is hn (B0d is s c.toNat) hsl2) ?_
      simp only [go_sem, ej]
      refine C3 (j + 1, A0x is (is.length + 1) 0 (B0d is s c.toNat)) (by simp; omega) ⟨by simp; omega, by simp only; rw [A48]; exact hsl2, hr⟩ ?_
      exact (A0i [(999, 136)] [])
     ·simp only [ha, if_true] at hr
      simp only [go_sem, ej]
      refine C3 (j + 1, B0d is s c.toNat) (by simp; omega) ⟨by simp; omega, hsl2, hr⟩ ?_
      exact (A0i [(999, 136)] [])
  ·simp at h1
   have e : j = tx.size := by omega
   subst e
   rw [List.drop_eq_nil_of_le (by rw [A3k]; exact Nat.le_refl _)] at hr
   simp only [C2r] at hr
   simp only [go_sem, q1, hg, hr]
   refine wE ?_
   simp only [go_sem, A8z]

def q3M (call : List UInt8) (a z : Bool) (is : List R6) (s : F4) : Bool := B2z a z is (D6 s.1).data.toList == (call == A8q)

theorem B8p (call : List UInt8) (a z : Bool) (is : List R6) (hn : is.length ≤ 100000) (s : F4) (hs : s.1.length ≤ 100000) :
  Meets Tryz.prog E0 A5a ([B24 s] ++ [.ptr 2 0, .ptr 3 0]) [(2, .box ([T.v (.bool a), T.v (.bool z), T.sl 5 (is.map T9)].map .t)), (3, .box ([T.v (.string (D6 call))].map .t))] (Bo (q3M call a z is s)) [(2, .box ([T.v (.bool a), T.v (.bool z), T.sl 5 (is.map T9)].map .t)), (3, .box ([T.v (.string (D6 call))].map .t))] := by
 simp only [List.singleton_append, List.map_cons, List.map_nil]
 have hF := C45 a z is hn (D6 s.1) (by rw [C9]; omega)
 have q : S2 .eql (D6 call) (bs [103, 114, 101, 112]) = some (.bool (call == A8q)) := eqT call A8q
 unfold q3M
 refine C03 (by simp) (C2 (by simp [B5, AV.ids, A4]) (by simp [Ob.live, Ob.ids, A4, B5, AV.ids])) (C2 (by simp [B5, AV.ids, A4]) (by simp [Ob.live, Ob.ids, A4, B5, AV.ids])) (by simp [A4]) (by simp [A4]) ?_
 simp only [go_sem, A9s]
 refine A6 hF ?_
 simp only [go_sem, q]
 ((try (with_reducible refine rF ?_)); (try simp only [go_sem]))
 refine wO [] [] ?_
 simp only [go_sem, B0e, exists_eq_left', Option.some.injEq]
 simp [G1, G2, B1, AV.asOwn, B3, A9, AV.isNil, J8, B6, B4, B8]

theorem Y0 {io : List Nat} {env : List (Nat × AV)} {sto : List (Nat × Ob)} {env' : List (Nat × AV)} {sto' : List (Nat × Ob)} (rn : List (Nat × Nat)) (sn : List Nat)
  (h1 : A6s sto sn rn env sto' env' := by simp [A6s, go_sem, G1, G2, AV.ids, B5, A4, ren, A9, B1, AV.asOwn, B3, AV.isNil, J8, B6, B4, B8, A2j, I3, pst] <;> assumption)
  (h2 : A1t sto sn rn sto' sto' := by simp [A1t, go_sem, G1, G2, wkO, AV.ids, Ob.ids, B5, A4, ren, AV.one, A9, B1, AV.asOwn, B3, AV.isNil, J8, B6, B4, B8, A2j, I3, pst] <;> assumption)
  (h3 : ((A4 sto').map (ren rn)).Nodup := by simp [A4, ren]) (h4 : ∀ i ∈ sn, 100 ≤ i ∧ A2d (A9 sto i) = true ∧ ∀ j ∈ A4 sto', ren rn j ≠ i := by simp [A9, A4, ren])
  (h5 : ∀ i ∈ io, ren rn i = i := by simp [A4, ren]) (h6 : ∀ i ∈ A4 sto', ren rn i ∈ io → i = ren rn i := by simp [A4, ren]) :
  Sub io ⟨H1 env, A9 sto⟩ ⟨H1 env', A9 sto'⟩ := C0t rn sn h1 h2 h3 h4 h5 h6

/-- A list whose first values are known, the others false. -/
def A4l (E : Nat → Bool) (n k : Nat) : List Bool := (List.range n).map fun i => decide (i < k) && E i

theorem D3o (E : Nat → Bool) (n : Nat) : A4l E n 0 = List.replicate n false := by
 apply List.ext_getElem?
 intro i
 simp only [A4l, List.getElem?_map, List.getElem?_replicate, List.getElem?_range']
 by_cases h : i < n
 ·simp [List.getElem?_range, h]
 ·simp [List.getElem?_eq_none, h]

theorem C21 (E : Nat → Bool) (n k : Nat) : (A4l E n k).length = n := by simp [A4l]

theorem C1s (E : Nat → Bool) (n k i : Nat) (h : i < n) : (A4l E n k)[i]? = some (decide (i < k) && E i) := by
 simp [A4l, List.getElem?_range, h]

theorem D6s (E : Nat → Bool) (n k : Nat) (x : Bool) (hk : k < n) (h : E k = x) : (A4l E n k).set k x = A4l E n (k + 1) := by
 subst h
 apply List.ext_getElem?
 intro i
 rw [List.getElem?_set]
 by_cases hi : i < n
 ·rw [C1s E n (k + 1) i hi, C1s E n k i hi]
  by_cases e : k = i
  ·subst e; simp [C21, hk]
  ·rw [if_neg e]
   congr 2
   rw [decide_eq_decide]; omega
 ·rw [List.getElem?_eq_none (l := A4l E n (k + 1)) (by rw [C21]; omega), List.getElem?_eq_none (l := A4l E n k) (by rw [C21]; omega)]
  by_cases e : k = i
  ·omega
  ·rw [if_neg e]

theorem A8c (E : Nat → Bool) (n k i : Nat) (h : i < n) : ((A4l E n k).map bT)[i]? = some (bT (decide (i < k) && E i)) := by
 rw [List.getElem?_map, C1s E n k i h]; rfl

theorem C8c (E : Nat → Bool) (n k : Nat) (x : Bool) (hk : k < n) (h : E k = x) : ((A4l E n k).map bT).set k (bT x) = (A4l E n (k + 1)).map bT := by
 rw [← List.map_set, D6s E n k x hk h]

theorem D08 (f E : Nat → Bool) : A6n true f E 0 = E 0 := by simp [A6n]
theorem D3t (f E : Nat → Bool) (k : Nat) : A6n true f E (k + 1) = (E (k + 1) || (A6n true f E k && f k)) := by simp [A6n]
theorem D2u (f E : Nat → Bool) : A6n false f E 0 = false := by simp [A6n]
theorem D64 (f E : Nat → Bool) (k : Nat) : A6n false f E (k + 1) = (E k && f k) := by simp [A6n]

theorem C60 (a : Bool) (tx : List UInt8) : ∀ (is : List R6) (x : R6) (E : Nat → Bool), A6x a tx (is ++ [x]) E = A6n x.2 (B7j tx x.1) (A6x a tx is E)
 | [], x, E => rfl
 | y :: is, x, E => by simp only [List.cons_append, A6x]; exact C60 a tx is x _

theorem D6n {α : Type} {l : List α} {i : Nat} {x : α} (h : l[i]? = some x) : l.take (i + 1) = l.take i ++ [x] := by
 rw [List.take_add_one, h]; rfl

theorem C89 {tx : ByteArray} {k : Nat} {c : UInt8} (h : tx.data.toList[k]? = some c) (n : Nat) : B7j tx.data.toList n k = n.testBit c.toNat := by
 simp [B7j, h]

theorem C70 (a z : Bool) (is : List R6) (hn : is.length ≤ 100000) (tx : ByteArray) (ht : tx.size < 70368744177664) : Meets Tryz.prog E0 B19 [B6l a z is, .t (.v (.string tx))] [] (Bo (D71 a z is tx.data.toList)) [] := by
 refine X6 C6p ?_
 have b1 : ((1 : Nat) : Int) * ((tx.size + 1 : Nat) : Int) ≤ 2 ^ 48 := by omega
 have b2 : ((tx.size + 1 : Nat) : Int) < 2 ^ 47 := by omega
 have ei : IntKind.i64.wrap ((tx.size : Int) + 1) = ((tx.size + 1 : Nat) : Int) := by rw [A5 (by omega) (by omega)]; omega
 have e0 : ∀ E, List.replicate (tx.size + 1) [T.v (.bool false)] = (A4l E (tx.size + 1) 0).map bT := by intro E; rw [D3o]; simp
 simp only [go_sem, B7b, ei, b1, b2]
 rw [e0 (A1q a)]
 refine C8 (fun k : Nat => tx.size + 1 - k) (fun k => k ≤ tx.size + 1)
  (fun k => [(1, .t (.v (.string tx))), (2, .ptr 100 0), (5, .own 105 1 0 (tx.size + 1) true), (6, I k)])
  (fun k => [(100, .box [Bo a, Bo z, A5x is]), (105, .row 1 true ((A4l (A1q a) (tx.size + 1) k).map bT))])
  0 (by omega) ?_ ?_
 ·exact (Y0 [] [])
 ·intro k hk
  simp only [go_sem, B2p]
  refine G3 rfl (fun h1 => ?_) (fun h1 => ?_)
  ·simp at h1
   have ek : IntKind.i64.wrap ((k : Int) + 1) = ((k + 1 : Nat) : Int) := by rw [A5 (by omega) (by omega)]; omega
   have q1 : (k : Int) < ((tx.size + 1 : Nat) : Int) := by omega
   have hg := A8c (A1q a) (tx.size + 1) k k (by omega)
   have hs := C8c (A1q a) (tx.size + 1) k (!a || decide (k = 0)) (by omega) rfl
   cases ha : a
   ·simp only [ha, Bool.not_false, Bool.true_or] at hs hg
    simp only [go_sem, q1, hg, hs, ek]
    refine C3 (k + 1) (by first | omega | (simp only; omega)) (by first | omega | (simp only; omega)) ?_
    exact (Y0 [] [])
   ·simp only [ha, Bool.not_true, Bool.false_or] at hs hg
    simp only [go_sem, q1, hg, hs, ek]
    refine C3 (k + 1) (by first | omega | (simp only; omega)) (by first | omega | (simp only; omega)) ?_
    exact (Y0 [] [])
  ·simp at h1
   have e : k = tx.size + 1 := by omega
   subst e
   simp only [go_sem, B2m]
   generalize hL : tx.data.toList = L at *
   refine C8 (fun j : Nat => is.length - j) (fun j => j ≤ is.length)
    (fun j => [(1, .t (.v (.string tx))), (2, .ptr 100 0), (5, .own 999 1 0 (tx.size + 1) true), (7, I j)])
    (fun j => [(100, .box [Bo a, Bo z, A5x is]), (999, .row 1 true ((A4l (A6x a L (is.take j) (A1q a)) (tx.size + 1) (tx.size + 1)).map bT))])
    0 (by omega) ?_ ?_
   ·rw [show is.take 0 = [] from rfl, show A6x a L [] (A1q a) = A1q a from rfl]
    exact (Y0 [(999, 105)] [])
   ·intro j hj
    simp only [go_sem, B25]
    refine G3 rfl (fun h2 => ?_) (fun h2 => ?_)
    ·simp at h2
     obtain ⟨x, hx⟩ := F0 h2
     have ej : IntKind.i64.wrap ((j : Int) + 1) = ((j + 1 : Nat) : Int) := by rw [A5 (by omega) (by omega)]; omega
     have hnx : A6x a L (is.take (j + 1)) (A1q a) = A6n x.2 (B7j L x.1) (A6x a L (is.take j) (A1q a)) := by
      rw [D6n hx, C60]
     generalize A6x a L (is.take j) (A1q a) = E at *
     generalize hE : A6n x.2 (B7j L x.1) E = E' at *
     simp only [go_sem, ei, b1, b2, e0 E']
     refine C8 (fun k : Nat => tx.size + 1 - k) (fun k => k ≤ tx.size + 1)
      (fun k => [(1, .t (.v (.string tx))), (2, .ptr 100 0), (5, .own 999 1 0 (tx.size + 1) true), (7, I j), (8, .own 135 1 0 (tx.size + 1) true), (9, I k)])
      (fun k => [(100, .box [Bo a, Bo z, A5x is]), (999, .row 1 true ((A4l E (tx.size + 1) (tx.size + 1)).map bT)), (135, .row 1 true ((A4l E' (tx.size + 1) k).map bT))])
      0 (by omega) ?_ ?_
     ·exact (Y0 [] [])
     ·intro k hk
      simp only [go_sem, B26]
      refine G3 rfl (fun h3 => ?_) (fun h3 => ?_)
      ·simp at h3
       have ek : IntKind.i64.wrap ((k : Int) + 1) = ((k + 1 : Nat) : Int) := by rw [A5 (by omega) (by omega)]; omega
       have q1 : (k : Int) < ((tx.size + 1 : Nat) : Int) := by omega
       have q2 : (j : Int) < (is.length : Int) := by omega
       have hg := A8c E' (tx.size + 1) k k (by omega)
       have hgE := A8c E (tx.size + 1) (tx.size + 1) k (by omega)
       rw [decide_eq_true (show k < tx.size + 1 by omega), Bool.true_and] at hgE
       have hs := fun v (hv : E' k = v) => C8c E' (tx.size + 1) k v (by omega) hv
       cases hst : x.2
       ·rw [hst] at hE
        cases k with
        | zero =>
         have hv : E' 0 = false := by rw [← hE, D2u]
         simp only [go_sem, q1, q2, hx, T9, hst, hg, hs _ hv, ek, show decide ((0 : Int) < ((0 : Nat) : Int)) = false from rfl]
         refine C3 1 (by first | omega | (simp only; omega)) (by first | omega | (simp only; omega)) ?_
         exact (Y0 [] [])
        | succ m =>
         obtain ⟨c, hc⟩ := F0 (l := L) (i := m) (by rw [← hL, A3k]; omega)
         have hc2 : tx[m]? = some c := by rw [C12, hL]; exact hc
         have hv : E' (m + 1) = (E m && x.1.testBit c.toNat) := by rw [← hE, D64, ← hL, C89 (by rw [hL]; exact hc)]
         have hgm := A8c E (tx.size + 1) (tx.size + 1) m (by omega)
         rw [decide_eq_true (show m < tx.size + 1 by omega), Bool.true_and] at hgm
         have e1 : IntKind.i64.wrap (((m + 1 : Nat) : Int) - 1) = ((m : Nat) : Int) := by rw [A5 (by omega) (by omega)]; omega
         have d1 : decide ((0 : Int) < ((m + 1 : Nat) : Int)) = true := decide_eq_true (by omega)
         have q3 : (m : Int) < ((tx.size + 1 : Nat) : Int) := by omega
         cases hEm : E m
         ·rw [hEm, Bool.false_and] at hv
          simp only [go_sem, q1, q2, q3, hx, T9, hst, hg, hs _ hv, ek, d1, e1, hgm, hEm]
          refine C3 (m + 1 + 1) (by first | omega | (simp only; omega)) (by first | omega | (simp only; omega)) ?_
          exact (Y0 [] [])
         ·rw [hEm, Bool.true_and] at hv
          simp only [go_sem, q1, q2, q3, hx, T9, hst, d1, e1, hgm, hEm, hc2]
          refine A6 (B9r x.1 c.toNat false (A7n c)) ?_
          simp only [go_sem, q1, hg, hs _ hv, ek]
          refine C3 (m + 1 + 1) (by first | omega | (simp only; omega)) (by first | omega | (simp only; omega)) ?_
          exact (Y0 [] [])
       ·rw [hst] at hE
        cases k with
        | zero =>
         have hv : E' 0 = E 0 := by rw [← hE, D08]
         cases hE0 : E 0
         ·rw [hE0] at hv
          simp only [go_sem, q1, q2, hx, T9, hst, hg, hgE, hE0, hs _ hv, ek, show decide ((0 : Int) < ((0 : Nat) : Int)) = false from rfl]
          refine C3 1 (by first | omega | (simp only; omega)) (by first | omega | (simp only; omega)) ?_
          exact (Y0 [] [])
         ·rw [hE0] at hv
          simp only [go_sem, q1, q2, hx, T9, hst, hg, hgE, hE0, hs _ hv, ek]
          refine C3 1 (by first | omega | (simp only; omega)) (by first | omega | (simp only; omega)) ?_
          exact (Y0 [] [])
        | succ m =>
         obtain ⟨c, hc⟩ := F0 (l := L) (i := m) (by rw [← hL, A3k]; omega)
         have hc2 : tx[m]? = some c := by rw [C12, hL]; exact hc
         have hv : E' (m + 1) = (E (m + 1) || (E' m && x.1.testBit c.toNat)) := by rw [← hE, D3t, ← hL, C89 (by rw [hL]; exact hc)]
         have hgm := A8c E' (tx.size + 1) (m + 1) m (by omega)
         rw [decide_eq_true (show m < m + 1 by omega), Bool.true_and] at hgm
         have e1 : IntKind.i64.wrap (((m + 1 : Nat) : Int) - 1) = ((m : Nat) : Int) := by rw [A5 (by omega) (by omega)]; omega
         have d1 : decide ((0 : Int) < ((m + 1 : Nat) : Int)) = true := decide_eq_true (by omega)
         have q3 : (m : Int) < ((tx.size + 1 : Nat) : Int) := by omega
         cases hE0 : E (m + 1)
         ·rw [hE0, Bool.false_or] at hv
          cases hEm : E' m
          ·rw [hEm, Bool.false_and] at hv
           simp only [go_sem, q1, q2, q3, hx, T9, hst, hg, hgE, hE0, hs _ hv, ek, d1, e1, hgm, hEm]
           refine C3 (m + 1 + 1) (by first | omega | (simp only; omega)) (by first | omega | (simp only; omega)) ?_
           exact (Y0 [] [])
          ·rw [hEm, Bool.true_and] at hv
           simp only [go_sem, q1, q2, q3, hx, T9, hst, hg, hgE, hE0, d1, e1, hgm, hEm, hc2]
           refine A6 (B9r x.1 c.toNat true (A7n c)) ?_
           simp only [go_sem, q1, hg, hs _ hv, ek]
           refine C3 (m + 1 + 1) (by first | omega | (simp only; omega)) (by first | omega | (simp only; omega)) ?_
           exact (Y0 [] [])
         ·rw [hE0, Bool.true_or] at hv
          simp only [go_sem, q1, q2, hx, T9, hst, hg, hgE, hE0, hs _ hv, ek]
          refine C3 (m + 1 + 1) (by first | omega | (simp only; omega)) (by first | omega | (simp only; omega)) ?_
          exact (Y0 [] [])
      ·simp at h3
       have e : k = tx.size + 1 := by omega
       subst e
       simp only [go_sem, B1y, B2c, ej]
       refine C3 (j + 1) (by first | omega | (simp only; omega)) (by first | omega | (simp only; omega)) ?_
       rw [hnx]
       exact (Y0 [(999, 135)] [])
    ·simp at h2
     have e : j = is.length := by omega
     subst e
     rw [List.take_length]
     generalize hE : A6x a L is (A1q a) = E
     have hrm : D71 a z is L = (if z then E tx.size else (List.range (tx.size + 1)).any E) := by
      unfold D71; rw [hE, ← hL, A3k]
     rw [hrm]
     have hgt : ∀ i, i < tx.size + 1 → ((A4l E (tx.size + 1) (tx.size + 1)).map bT)[i]? = some (bT (E i)) := fun i hi => by
      rw [A8c E _ _ i hi, decide_eq_true hi, Bool.true_and]
     cases hz : z
     ·simp only [go_sem, A5u, hz]
      refine C8 (fun k : Nat => tx.size + 1 - k) (fun k => k ≤ tx.size + 1 ∧ ∀ i < k, E i = false)
       (fun k => [(1, .t (.v (.string tx))), (5, .own 999 1 0 (tx.size + 1) true), (10, I k)])
       (fun k => [(999, .row 1 true ((A4l E (tx.size + 1) (tx.size + 1)).map bT))])
       0 ⟨by omega, by simp⟩ ?_ ?_
      ·exact (Y0 [] [])
      ·rintro k ⟨hk, hall⟩
       simp only [go_sem, B1w]
       refine G3 rfl (fun h3 => ?_) (fun h3 => ?_)
       ·simp at h3
        have q1 : (k : Int) < ((tx.size + 1 : Nat) : Int) := by omega
        have ek : IntKind.i64.wrap ((k : Int) + 1) = ((k + 1 : Nat) : Int) := by rw [A5 (by omega) (by omega)]; omega
        cases hEk : E k
        ·simp only [go_sem, q1, hgt k (by omega), hEk, ek]
         refine C3 (k + 1) (by first | omega | (simp only; omega)) ⟨by first | omega | (simp only; omega), fun i hi => ?_⟩ ?_
         ·rcases Nat.lt_succ_iff_lt_or_eq.1 hi with h | h
          ·exact hall i h
          ·rw [h]; exact hEk
         exact (Y0 [] [])
        ·simp only [go_sem, q1, hgt k (by omega), hEk]
         refine wE ?_
         simp only [go_sem, A68]
         have : (List.range (tx.size + 1)).any E = true := List.any_eq_true.2 ⟨k, by simp; omega, hEk⟩
         rw [List.range_succ] at this; rw [this]; try rfl
       ·simp at h3
        simp only [go_sem, B1x]
        refine wE ?_
        simp only [go_sem, A68]
        have : (List.range (tx.size + 1)).any E = false := by
         rw [List.any_eq_false]
         intro i hi
         rw [hall i (by simp at hi; omega)]; simp
        rw [List.range_succ] at this; rw [this]; try rfl
     ·have q1 : (tx.size : Int) < ((tx.size + 1 : Nat) : Int) := by omega
      simp only [go_sem, A5u, hz, q1, hgt tx.size (by omega)]
      refine wE ?_
      simp only [go_sem, A68]

/-- Are all items from one place to another of any number? -/
def B7c (is : List R6) (i k : Nat) : Prop := i ≤ k ∧ ∀ m, i ≤ m → m < k → V2 is m = true

def gt (s : List Bool) (k : Nat) : Prop := s.getD k false = true

theorem B9z (s : List Bool) (i k : Nat) (v : Bool) (h : i < s.length) : (s.set i v).getD k false = if k = i then v else s.getD k false := by
 simp only [List.getD_eq_getElem?_getD, List.getElem?_set]
 by_cases hk : k = i
 ·subst hk; simp [h]
 ·rw [if_neg (Ne.symm hk), if_neg hk]

/-- All that may come next is there, but behind one place. -/
def D4s (is : List R6) (s : List Bool) (i : Nat) : Prop := ∀ k, k < is.length → k + 1 ≠ i → gt s k → V2 is k = true → gt s (k + 1)
def B87 (is : List R6) (s : List Bool) : Prop := ∀ k, k < is.length → gt s k → V2 is k = true → gt s (k + 1)

theorem C3z {is : List R6} {i : Nat} (h : V2 is i = true) : i < is.length := by
 unfold V2 at h
 by_cases hi : i < is.length
 ·exact hi
 ·rw [List.getElem?_eq_none (by omega)] at h; simp at h

theorem D2b {is : List R6} {s : List Bool} (hcl : B87 is s) {i : Nat} (h0 : gt s i) : ∀ {k : Nat}, i ≤ k → (∀ m, i ≤ m → m < k → V2 is m = true) → k ≤ is.length → gt s k
 | 0, h1, _, _ => by
  have : i = 0 := by omega
  subst this; exact h0
 | k + 1, h1, h2, h3 => by
  by_cases e : i = k + 1
  ·subst e; exact h0
  ·exact hcl k (by omega) (D2b hcl h0 (by omega) (fun m a b => h2 m a (by omega)) (by omega)) (h2 k (by omega) (by omega))

theorem B3a (is : List R6) : ∀ (f i : Nat) (s : List Bool), s.length = is.length + 1 → i ≤ is.length → is.length < i + f → D4s is s i →
  B87 is (A0x is f i s) ∧ ∀ k, gt (A0x is f i s) k ↔ gt s k ∨ (B7c is i k ∧ k ≤ is.length)
 | 0, i, s, _, hi, hf, _ => by omega
 | f + 1, i, s, hs, hi, hf, hc => by
  simp only [A0x]
  by_cases hsi : s.getD i false = true
  ·rw [if_pos hsi]
   have hcl : B87 is s := by
    intro k hk h1 h2
    by_cases e : k + 1 = i
    ·rw [e]; exact hsi
    ·exact hc k hk e h1 h2
   refine ⟨hcl, fun k => ⟨Or.inl, fun h => ?_⟩⟩
   rcases h with h | ⟨⟨h1, h2⟩, h3⟩
   ·exact h
   ·exact D2b hcl hsi h1 h2 h3
  ·rw [if_neg hsi]
   have hsl : i < s.length := by omega
   have hset : ∀ k, gt (s.set i true) k ↔ k = i ∨ gt s k := by
    intro k
    unfold gt
    rw [B9z s i k true hsl]
    by_cases e : k = i
    ·simp [e]
    ·simp [e]
   by_cases hst : V2 is i = true
   ·rw [if_pos hst]
    have hlt := C3z hst
    have hc2 : D4s is (s.set i true) (i + 1) := by
     intro k hk h0 h1 h2
     rw [hset] at h1 ⊢
     rcases h1 with h1 | h1
     ·exact absurd (by rw [h1]) h0
     ·by_cases e : k + 1 = i
      ·exact Or.inl e
      ·exact Or.inr (hc k hk e h1 h2)
    obtain ⟨g1, g2⟩ := B3a is f (i + 1) (s.set i true) (by simpa using hs) (by omega) (by omega) hc2
    refine ⟨g1, fun k => ?_⟩
    rw [g2 k, hset]
    constructor
    ·rintro ((h | h) | ⟨⟨h1, h2⟩, h3⟩)
     ·subst h; exact Or.inr ⟨⟨Nat.le_refl _, fun m a b => by omega⟩, by omega⟩
     ·exact Or.inl h
     ·refine Or.inr ⟨⟨by omega, fun m a b => ?_⟩, h3⟩
      by_cases e : m = i
      ·rw [e]; exact hst
      ·exact h2 m (by omega) b
    ·rintro (h | ⟨⟨h1, h2⟩, h3⟩)
     ·exact Or.inl (Or.inr h)
     ·by_cases e : k = i
      ·exact Or.inl (Or.inl e)
      ·exact Or.inr ⟨⟨by omega, fun m a b => h2 m (by omega) b⟩, h3⟩
   ·rw [if_neg hst]
    refine ⟨?_, fun k => ?_⟩
    ·intro k hk h1 h2
     rw [hset] at h1 ⊢
     rcases h1 with h1 | h1
     ·rw [h1] at h2; exact absurd h2 hst
     ·by_cases e : k + 1 = i
      ·exact Or.inl e
      ·exact Or.inr (hc k hk e h1 h2)
    ·rw [hset]
     constructor
     ·rintro (h | h)
      ·subst h; exact Or.inr ⟨⟨Nat.le_refl _, fun m a b => by omega⟩, hi⟩
      ·exact Or.inl h
     ·rintro (h | ⟨⟨h1, h2⟩, h3⟩)
      ·exact Or.inr h
      ·by_cases e : k = i
       ·exact Or.inl e
       ·exact absurd (h2 i (Nat.le_refl _) (by omega)) hst

theorem C44 (is : List R6) (n : Nat) : B87 is (List.replicate n false) := by
 intro k _ h _
 unfold gt at h
 simp [List.getD_eq_getElem?_getD, List.getElem?_replicate] at h
 split at h <;> simp at h

/-- What one state and a byte lead to. -/
def D8p (is : List R6) (s : List Bool) (b i p : Nat) : Prop := gt s i ∧ B8v is i b = true ∧ p = if V2 is i then i else i + 1

theorem C7s (is : List R6) (s : List Bool) (b : Nat) : ∀ n, n ≤ is.length → B87 is (A1m is s b n) ∧ ∀ k, gt (A1m is s b n) k ↔ ∃ i p, i < n ∧ D8p is s b i p ∧ B7c is p k ∧ k ≤ is.length
 | 0, _ => ⟨C44 is _, fun k => by
   constructor
   ·intro h
    unfold gt at h
    simp [A1m, List.getD_eq_getElem?_getD, List.getElem?_replicate] at h
    split at h <;> simp at h
   ·rintro ⟨i, p, h, _⟩; omega⟩
 | n + 1, hn => by
  obtain ⟨h1, h2⟩ := C7s is s b n (by omega)
  simp only [A1m]
  by_cases hc : (s.getD n false && B8v is n b) = true
  ·rw [if_pos hc]
   simp only [Bool.and_eq_true] at hc
   obtain ⟨g1, g2⟩ := B3a is (is.length + 1) (if V2 is n then n else n + 1) (A1m is s b n) (A8b is s b n) (by split <;> omega) (by omega) (fun k hk _ a c => h1 k hk a c)
   refine ⟨g1, fun k => ?_⟩
   rw [g2 k, h2 k]
   constructor
   ·rintro (⟨i, p, a, c, d⟩ | h)
    ·exact ⟨i, p, by omega, c, d⟩
    ·exact ⟨n, _, by omega, ⟨hc.1, hc.2, rfl⟩, h⟩
   ·rintro ⟨i, p, a, c, d⟩
    by_cases e : i = n
    ·subst e; rw [← c.2.2]; exact Or.inr d
    ·exact Or.inl ⟨i, p, by omega, c, d⟩
  ·rw [if_neg hc]
   refine ⟨h1, fun k => ?_⟩
   rw [h2 k]
   constructor
   ·rintro ⟨i, p, a, c, d⟩; exact ⟨i, p, by omega, c, d⟩
   ·rintro ⟨i, p, a, c, d⟩
    by_cases e : i = n
    ·subst e; exact absurd (by simp only [Bool.and_eq_true]; exact ⟨c.1, c.2.1⟩) hc
    ·exact ⟨i, p, by omega, c, d⟩

/-- Where so many items can end. -/
def B4f (a : Bool) (is : List R6) (tx : List UInt8) (i : Nat) : Nat → Bool := A6x a tx (is.take i) (A1q a)

theorem C87 (a : Bool) (is : List R6) (tx : List UInt8) : B4f a is tx 0 = A1q a := rfl

theorem C7f (a : Bool) {is : List R6} (tx : List UInt8) {i : Nat} {x : R6} (h : is[i]? = some x) : B4f a is tx (i + 1) = A6n x.2 (B7j tx x.1) (B4f a is tx i) := by
 have hs : is.take (i + 1) = is.take i ++ [x] := by rw [List.take_add_one, h]; rfl
 have key : ∀ (l : List R6) (E : Nat → Bool), A6x a tx (l ++ [x]) E = A6n x.2 (B7j tx x.1) (A6x a tx l E) := by
  intro l
  induction l with
  | nil => intro E; rfl
  | cons y l ih => intro E; simp only [List.cons_append, A6x]; exact ih _
 unfold B4f; rw [hs, key]

/-- What the state i says ahead of the j-th byte. -/
def stI (a : Bool) (is : List R6) (tx : List UInt8) (i j : Nat) : Bool := if V2 is i then B4f a is tx (i + 1) j else B4f a is tx i j

def D63 (a : Bool) (is : List R6) (tx : List UInt8) (j : Nat) (s : List Bool) : Prop := s.length = is.length + 1 ∧ B87 is s ∧ ∀ i, i ≤ is.length → (gt s i ↔ stI a is tx i j = true)

theorem D4x {is : List R6} {i : Nat} (h : i < is.length) : ∃ x, is[i]? = some x ∧ V2 is i = x.2 ∧ ∀ b, B8v is i b = x.1.testBit b :=
 ⟨is[i], List.getElem?_eq_getElem h, by simp [V2, List.getElem?_eq_getElem h], fun b => by simp [B8v, List.getElem?_eq_getElem h]⟩

theorem C7e (a : Bool) {is : List R6} {tx : List UInt8} {j : Nat} {c : UInt8} (hc : tx[j]? = some c) {i : Nat} (hi : i < is.length) :
  B4f a is tx (i + 1) (j + 1) = ((V2 is i && B4f a is tx i (j + 1)) || (stI a is tx i j && B8v is i c.toNat)) := by
 obtain ⟨x, hx, h1, h2⟩ := D4x hi
 have hf : B7j tx x.1 j = x.1.testBit c.toNat := by simp [B7j, hc]
 have hE := C7f a tx hx
 unfold stI
 rw [hE, h1, h2]
 cases x.2 <;> simp [A6n, hf]

theorem C54 (a : Bool) {is : List R6} {tx : List UInt8} {i : Nat} (hi : i < is.length) : B4f a is tx (i + 1) 0 = (V2 is i && B4f a is tx i 0) := by
 obtain ⟨x, hx, h1, h2⟩ := D4x hi
 rw [C7f a tx hx, h1]; rfl

theorem B51 (a : Bool) (is : List R6) (tx : List UInt8) : ∀ i, i ≤ is.length → (B4f a is tx i 0 = true ↔ B7c is 0 i)
 | 0, _ => by simp [C87, A1q, B7c]
 | i + 1, h => by
  rw [C54 a (by omega), Bool.and_eq_true, B51 a is tx i (by omega)]
  constructor
  ·rintro ⟨h1, _, h2⟩
   refine ⟨by omega, fun m a b => ?_⟩
   by_cases e : m = i
   ·rw [e]; exact h1
   ·exact h2 m a (by omega)
  ·rintro ⟨_, h2⟩
   exact ⟨h2 i (by omega) (by omega), by omega, fun m a b => h2 m a (by omega)⟩

theorem D7l (a : Bool) (is : List R6) (tx : List UInt8) : D63 a is tx 0 (A0x is (is.length + 1) 0 (List.replicate (is.length + 1) false)) := by
 obtain ⟨g1, g2⟩ := B3a is (is.length + 1) 0 (List.replicate (is.length + 1) false) (by simp) (by omega) (by omega) (fun k hk _ a c => C44 is _ k hk a c)
 refine ⟨by rw [A48]; simp, g1, fun i hi => ?_⟩
 rw [g2 i]
 have hno : ¬ gt (List.replicate (is.length + 1) false) i := by
  unfold gt
  simp [List.getD_eq_getElem?_getD, List.getElem?_replicate]
  split <;> simp
 unfold stI
 by_cases hs : V2 is i = true
 ·have := C3z hs
  rw [if_pos hs, C54 a this, hs, Bool.true_and, B51 a is tx i hi]
  simp [hno, hi]
 ·rw [if_neg hs, B51 a is tx i hi]
  simp [hno, hi]

/-- Behind a byte: what is there is what can be. -/
theorem D50 (a : Bool) {is : List R6} {tx : List UInt8} {j : Nat} {c : UInt8} (hc : tx[j]? = some c) {s t : List Bool} (hok : D63 a is tx j s) (hl : t.length = is.length + 1) (hcl : B87 is t)
  (ht : ∀ k, k ≤ is.length → (gt t k ↔ (∃ i p, i < is.length ∧ D8p is s c.toNat i p ∧ B7c is p k) ∨ (a = false ∧ B7c is 0 k))) : D63 a is tx (j + 1) t := by
 refine ⟨hl, hcl, ?_⟩
 -- arrivals: by the items ahead
 have arr : ∀ k, k ≤ is.length → (B4f a is tx k (j + 1) = true ↔ (∃ i p, i < k ∧ i < is.length ∧ D8p is s c.toNat i p ∧ B7c is p k) ∨ (a = false ∧ B7c is 0 k)) := by
  intro k
  induction k with
  | zero =>
   intro _
   rw [C87]
   constructor
   ·intro h; right; simp [A1q] at h; exact ⟨h, Nat.le_refl _, fun m a b => by omega⟩
   ·rintro (⟨i, p, h, _⟩ | ⟨h, _⟩)
    ·omega
    ·simp [A1q, h]
  | succ k ih =>
   intro hk
   have ih := ih (by omega)
   have hst := hok.2.2 k (by omega)
   rw [C7e a hc (show k < is.length by omega), Bool.or_eq_true, Bool.and_eq_true, Bool.and_eq_true, ih, ← hst]
   constructor
   ·rintro (⟨h1, ⟨i, p, a1, a2, a3, a4⟩ | ⟨b1, b2⟩⟩ | ⟨h1, h2⟩)
    ·refine Or.inl ⟨i, p, by omega, a2, a3, by have := a4.1; omega, fun m x y => ?_⟩
     by_cases e : m = k
     ·rw [e]; exact h1
     ·exact a4.2 m x (by omega)
    ·refine Or.inr ⟨b1, by omega, fun m x y => ?_⟩
     by_cases e : m = k
     ·rw [e]; exact h1
     ·exact b2.2 m x (by omega)
    ·refine Or.inl ⟨k, _, by omega, by omega, ⟨h1, h2, rfl⟩, by split <;> omega, fun m x y => ?_⟩
     by_cases hs : V2 is k = true
     ·rw [if_pos hs] at x
      have : m = k := by omega
      rw [this]; exact hs
     ·rw [if_neg hs] at x; omega
   ·rintro (⟨i, p, a1, a2, a3, a4⟩ | ⟨b1, b2⟩)
    ·by_cases e : i = k
     ·subst e; exact Or.inr ⟨a3.1, a3.2.1⟩
     ·have hp : p ≤ k := by have := a3.2.2; split at this <;> omega
      exact Or.inl ⟨a4.2 k hp (by omega), Or.inl ⟨i, p, by omega, a2, a3, hp, fun m x y => a4.2 m x (by omega)⟩⟩
    ·exact Or.inl ⟨b2.2 k (by omega) (by omega), Or.inr ⟨b1, by omega, fun m x y => b2.2 m x (by omega)⟩⟩
 intro k hk
 rw [ht k hk]
 have hmain : (∃ i p, i < is.length ∧ D8p is s c.toNat i p ∧ B7c is p k) ↔ (∃ i p, i < k ∧ i < is.length ∧ D8p is s c.toNat i p ∧ B7c is p k) ∨ (V2 is k = true ∧ gt s k ∧ B8v is k c.toNat = true) := by
  constructor
  ·rintro ⟨i, p, a1, a2, a3⟩
   by_cases e : i < k
   ·exact Or.inl ⟨i, p, e, a1, a2, a3⟩
   ·have h1 := a3.1
    have h2 := a2.2.2
    by_cases hs : V2 is i = true
    ·rw [if_pos hs] at h2
     have : i = k := by omega
     subst this; exact Or.inr ⟨hs, a2.1, a2.2.1⟩
    ·rw [if_neg hs] at h2; omega
  ·rintro (⟨i, p, _, a1, a2, a3⟩ | ⟨h1, h2, h3⟩)
   ·exact ⟨i, p, a1, a2, a3⟩
   ·exact ⟨k, k, C3z h1, ⟨h2, h3, by rw [if_pos h1]⟩, Nat.le_refl _, fun m a b => by omega⟩
 rw [hmain]
 unfold stI
 have hst := hok.2.2 k hk
 by_cases hs : V2 is k = true
 ·have hlt := C3z hs
  rw [if_pos hs, C7e a hc hlt, hs, Bool.true_and, Bool.or_eq_true, arr k hk, Bool.and_eq_true, ← hst]
  constructor
  ·rintro ((h | ⟨_, h2, h3⟩) | h)
   ·exact Or.inl (Or.inl h)
   ·exact Or.inr ⟨h2, h3⟩
   ·exact Or.inl (Or.inr h)
  ·rintro ((h | h) | ⟨h2, h3⟩)
   ·exact Or.inl (Or.inl h)
   ·exact Or.inr h
   ·exact Or.inl (Or.inr ⟨rfl, h2, h3⟩)
 ·rw [if_neg hs, arr k hk]
  constructor
  ·rintro ((h | ⟨h1, _⟩) | h)
   ·exact Or.inl h
   ·exact absurd h1 hs
   ·exact Or.inr h
  ·rintro (h | h)
   ·exact Or.inl (Or.inl h)
   ·exact Or.inr h

theorem D25 (is : List R6) : V2 is is.length = false := by simp [V2]

theorem D98 (a : Bool) {is : List R6} {tx : List UInt8} {j : Nat} {c : UInt8} (hc : tx[j]? = some c) {s : List Bool} (hok : D63 a is tx j s) :
  D63 a is tx (j + 1) (if a then B0d is s c.toNat else A0x is (is.length + 1) 0 (B0d is s c.toNat)) := by
 obtain ⟨g1, g2⟩ := C7s is s c.toNat is.length (Nat.le_refl _)
 have hl := A8b is s c.toNat is.length
 cases a with
 | true =>
  refine D50 true hc hok hl g1 fun k hk => ?_
  have := g2 k
  simp only [if_true, Bool.true_eq_false, false_and, or_false]
  refine this.trans ⟨?_, ?_⟩
  ·rintro ⟨i, p, h1, h2, h3, _⟩; exact ⟨i, p, h1, h2, h3⟩
  ·rintro ⟨i, p, h1, h2, h3⟩; exact ⟨i, p, h1, h2, h3, hk⟩
 | false =>
  obtain ⟨r1, r2⟩ := B3a is (is.length + 1) 0 (A1m is s c.toNat is.length) hl (by omega) (by omega) (fun k hk _ a b => g1 k hk a b)
  refine D50 false hc hok (by rw [if_neg (by simp), A48]; exact hl) (by rw [if_neg (by simp)]; exact r1) fun k hk => ?_
  rw [if_neg (by simp)]
  refine (r2 k).trans ?_
  rw [g2 k]
  simp only [true_and]
  constructor
  ·rintro (⟨i, p, h1, h2, h3, _⟩ | ⟨h, _⟩)
   ·exact Or.inl ⟨i, p, h1, h2, h3⟩
   ·exact Or.inr h
  ·rintro (⟨i, p, h1, h2, h3⟩ | h)
   ·exact Or.inl ⟨i, p, h1, h2, h3, hk⟩
   ·exact Or.inr ⟨h, hk⟩

theorem C7n (a z : Bool) (is : List R6) (tx : List UInt8) : ∀ (m j : Nat) (s : List Bool), tx.length = j + m → D63 a is tx j s →
  (C2r a z is (tx.drop j) s = true ↔ if z then B4f a is tx is.length tx.length = true else ∃ k, j ≤ k ∧ k ≤ tx.length ∧ B4f a is tx is.length k = true)
 | 0, j, s, hl, hok => by
  have hd : tx.drop j = [] := List.drop_eq_nil_of_le (by omega)
  have hlast := hok.2.2 is.length (Nat.le_refl _)
  unfold stI at hlast
  rw [D25, if_neg (by simp)] at hlast
  have hj : j = tx.length := by omega
  rw [hd]
  simp only [C2r]
  unfold gt at hlast
  rw [hlast, hj]
  cases z with
  | true => simp
  | false =>
   simp only [Bool.false_eq_true, if_false]
   exact ⟨fun h => ⟨_, Nat.le_refl _, Nat.le_refl _, h⟩, fun ⟨k, h1, h2, h3⟩ => by rwa [show k = tx.length by omega] at h3⟩
 | m + 1, j, s, hl, hok => by
  have hjl : j < tx.length := by omega
  have hd : tx.drop j = tx[j] :: tx.drop (j + 1) := List.drop_eq_getElem_cons hjl
  have hlast := hok.2.2 is.length (Nat.le_refl _)
  unfold stI at hlast
  rw [D25, if_neg (by simp)] at hlast
  unfold gt at hlast
  rw [hd]
  simp only [C2r]
  have ih := C7n a z is tx m (j + 1) _ (by omega) (D98 a (List.getElem?_eq_getElem hjl) hok)
  cases z with
  | true =>
   simp only [Bool.not_true, Bool.and_false, Bool.false_eq_true, if_false, if_true] at ih ⊢
   exact ih
  | false =>
   simp only [Bool.not_false, Bool.and_true, Bool.false_eq_true, if_false] at ih ⊢
   by_cases h0 : s.getD is.length false = true
   ·rw [if_pos h0]
    exact ⟨fun _ => ⟨j, Nat.le_refl _, by omega, hlast.1 h0⟩, fun _ => rfl⟩
   ·rw [if_neg h0, ih]
    constructor
    ·rintro ⟨k, h1, h2, h3⟩; exact ⟨k, by omega, h2, h3⟩
    ·rintro ⟨k, h1, h2, h3⟩
     by_cases e : k = j
     ·subst e; exact absurd (hlast.2 h3) h0
     ·exact ⟨k, by omega, h2, h3⟩

theorem D61 (a z : Bool) (is : List R6) (tx : List UInt8) : B2z a z is tx = true ↔ if z then B4f a is tx is.length tx.length = true else ∃ k, k ≤ tx.length ∧ B4f a is tx is.length k = true := by
 have := C7n a z is tx tx.length 0 _ (by omega) (D7l a is tx)
 rw [List.drop_zero] at this
 unfold B2z
 rw [this]
 cases z with
 | true => simp
 | false => simp

theorem D87 (a : Bool) (is : List R6) (tx : List UInt8) : B4f a is tx is.length = A6x a tx is (A1q a) := by unfold B4f; rw [List.take_length]

/-- Both find the same. -/
theorem D5v (a z : Bool) (is : List R6) (tx : List UInt8) : B2z a z is tx = D71 a z is tx := by
 rw [Bool.eq_iff_iff, D61, D87]
 unfold D71
 cases z with
 | true => simp
 | false =>
  simp only [Bool.false_eq_true, if_false, List.any_eq_true, List.mem_range]
  constructor
  ·rintro ⟨k, h1, h2⟩; exact ⟨k, by omega, h2⟩
  ·rintro ⟨k, h1, h2⟩; exact ⟨k, by omega, h2⟩

end Go.Proofs.YtgmpceijcdimkaaGreatDoor
