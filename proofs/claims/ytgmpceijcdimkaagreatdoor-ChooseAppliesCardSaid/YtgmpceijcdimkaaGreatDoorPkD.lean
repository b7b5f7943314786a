/- Texts of mine, many in one. No statement of the seat is proved here. -/
import Derived.Test.YtgmpceijcdimkaaGreatDoorPkC
import Derived.Test.YtgmpceijcdimkaaGreatDoorCards
import Derived.Test.YtgmpceijcdimkaaGreatDoorTie
import Derived.Test.YtgmpceijcdimkaaGreatDoorSxH
import Derived.Test.YtgmpceijcdimkaaGreatDoorSxRow
import Derived.Test.YtgmpceijcdimkaaGreatDoorSxTab
import Derived.ProofKit
import Derived.WalkKit
import Derived.OpenShut
import Derived.Deep.DeepHandedRow
import Derived.Deep.DeepWitnessRowRef
import Derived.Lib.LaidTab
set_option linter.unusedSimpArgs false
set_option linter.unusedVariables false
namespace Go.Proofs.YtgmpceijcdimkaaGreatDoor
open Go Go.Sx

theorem C2x (b : Nat) (hb : b < 256) : Meets Tryz.prog E0 B0m [U8 b] [] (C2i (2 ^ b, false)) [] := by
 refine X6 D1f ?_
 have h4 : b / 64 = 0 ∨ b / 64 = 1 ∨ b / 64 = 2 ∨ b / 64 = 3 := by omega
 have i4 : ∀ j : Nat, j < 4 → (j : Int) < ((4 : Nat) : Int) := by omega
 have hz : 0 ||| 2 ^ b = 2 ^ b := Nat.zero_or _
 have hmin : min (b % 64) 64 = b % 64 := Nat.min_eq_left (by omega)
 have p0 : 2 ^ (b % 64) % 18446744073709551616 = 2 ^ (b % 64) := Nat.mod_eq_of_lt (Nat.pow_lt_pow_right (n := 64) (by decide) (by omega))
 have wz : ∀ k, S6 0 k = 0 := by intro k; simp [S6]
 have ws : ∀ k, b / 64 = k → S6 (2 ^ b) k = 2 ^ (b % 64) := by intro k h; rw [← hz, Y7 0 k b h, wz, Nat.zero_or]
 have wo : ∀ k, b / 64 ≠ k → S6 (2 ^ b) k = 0 := by intro k h; rw [← hz, V7 0 k b h, wz]
 rcases h4 with h4 | h4 | h4 | h4
 ·((try simp only [go_sem, A0r, h4, i4 0 (by decide), hmin, p0, show 0 % 256 = 0 from rfl]); repeat (simp (disch := omega) only [A5, C4, C1, J1, J6]; (try simp only [go_sem, A0r, h4, i4 0 (by decide), hmin, p0, show 0 % 256 = 0 from rfl])))
  refine wE ?_
  simp only [go_sem, A6u, C2i, A8e, ws 0 h4, wo 1 (by omega), wo 2 (by omega), wo 3 (by omega)]
 ·((try simp only [go_sem, A0r, h4, i4 1 (by decide), hmin, p0, show 1 % 256 = 1 from rfl]); repeat (simp (disch := omega) only [A5, C4, C1, J1, J6]; (try simp only [go_sem, A0r, h4, i4 1 (by decide), hmin, p0, show 1 % 256 = 1 from rfl])))
  refine wE ?_
  simp only [go_sem, A6u, C2i, A8e, ws 1 h4, wo 0 (by omega), wo 2 (by omega), wo 3 (by omega)]
 ·((try simp only [go_sem, A0r, h4, i4 2 (by decide), hmin, p0, show 2 % 256 = 2 from rfl]); repeat (simp (disch := omega) only [A5, C4, C1, J1, J6]; (try simp only [go_sem, A0r, h4, i4 2 (by decide), hmin, p0, show 2 % 256 = 2 from rfl])))
  refine wE ?_
  simp only [go_sem, A6u, C2i, A8e, ws 2 h4, wo 0 (by omega), wo 1 (by omega), wo 3 (by omega)]
 ·((try simp only [go_sem, A0r, h4, i4 3 (by decide), hmin, p0, show 3 % 256 = 3 from rfl]); repeat (simp (disch := omega) only [A5, C4, C1, J1, J6]; (try simp only [go_sem, A0r, h4, i4 3 (by decide), hmin, p0, show 3 % 256 = 3 from rfl])))
  refine wE ?_
  simp only [go_sem, A6u, C2i, A8e, ws 3 h4, wo 0 (by omega), wo 1 (by omega), wo 2 (by omega)]

/-- Bytes, each by its own flag. -/
def A1k (n : Nat) : List AV := (List.range 256).map fun i => Bo (n.testBit i)

theorem D6e : (List.replicate 256 (Bo false)) = A1k 0 := by
 apply List.ext_getElem
 ·rw [List.length_replicate, A1k, List.length_map, List.length_range]
 ·intro i h1 h2
  rw [List.getElem_replicate]
  simp only [A1k, List.getElem_map, List.getElem_range, Nat.zero_testBit]

theorem D7q (n i : Nat) (h : i < 256) : (A1k n)[i]? = some (Bo (n.testBit i)) := by
 simp [A1k, h]

theorem D7a (n i : Nat) (h : i < 256) : (A1k n).set i (Bo true) = A1k (n ||| 2 ^ i) := by
 apply List.ext_getElem
 ·simp [A1k]
 ·intro j h1 h2
  rw [List.getElem_set]
  simp only [A1k, List.getElem_map, List.getElem_range, Nat.testBit_or, Nat.testBit_two_pow]
  split
  ·rename_i e; subst e; simp
  ·rename_i e; simp [e]

set_option maxRecDepth 20000 in
theorem E26 : ([T.v (.bool false), T.v (.bool false), T.v (.bool false), T.v (.bool false), T.v (.bool false), T.v (.bool false), T.v (.bool false), T.v (.bool false), T.v (.bool false), T.v (.bool false), T.v (.bool false), T.v (.bool false), T.v (.bool false), T.v (.bool false), T.v (.bool false), T.v (.bool false), T.v (.bool false), T.v (.bool false), T.v (.bool false), T.v (.bool false), T.v (.bool false), T.v (.bool false), T.v (.bool false), T.v (.bool false), T.v (.bool false), T.v (.bool false), T.v (.bool false), T.v (.bool false), T.v (.bool false), T.v (.bool false), T.v (.bool false), T.v (.bool false), T.v (.bool false), T.v (.bool false), T.v (.bool false), T.v (.bool false), T.v (.bool false), T.v (.bool false), T.v (.bool false), T.v (.bool false), T.v (.bool false), T.v (.bool false), T.v (.bool false), T.v (.bool false), T.v (.bool false), T.v (.bool false), T.v (.bool false), T.v (.bool false), T.v (.bool false), T.v (.bool false), T.v (.bool false), T.v (.bool false), T.v (.bool false), T.v (.bool false), T.v (.bool false), T.v (.bool false), T.v (.bool false), T.v (.bool false), T.v (.bool false), T.v (.bool false), T.v (.bool false), T.v (.bool false), T.v (.bool false), T.v (.bool false), T.v (.bool false), T.v (.bool false), T.v (.bool false), T.v (.bool false), T.v (.bool false), T.v (.bool false), T.v (.bool false), T.v (.bool false), T.v (.bool false), T.v (.bool false), T.v (.bool false), T.v (.bool false), T.v (.bool false), T.v (.bool false), T.v (.bool false), T.v (.bool false), T.v (.bool false), T.v (.bool false), T.v (.bool false), T.v (.bool false), T.v (.bool false), T.v (.bool false), T.v (.bool false), T.v (.bool false), T.v (.bool false), T.v (.bool false), T.v (.bool false), T.v (.bool false), T.v (.bool false), T.v (.bool false), T.v (.bool false), T.v (.bool false), T.v (.bool false), T.v (.bool false), T.v (.bool false), T.v (.bool false), T.v (.bool false), T.v (.bool false), T.v (.bool false), T.v (.bool false), T.v (.bool false), T.v (.bool false), T.v (.bool false), T.v (.bool false), T.v (.bool false), T.v (.bool false), T.v (.bool false), T.v (.bool false), T.v (.bool false), T.v (.bool false), T.v (.bool false), T.v (.bool false), T.v (.bool false), T.v (.bool false), T.v (.bool false), T.v (.bool false), T.v (.bool false), T.v (.bool false), T.v (.bool false), T.v (.bool false), T.v (.bool false), T.v (.bool false), T.v (.bool false), T.v (.bool false), T.v (.bool false), T.v (.bool false), T.v (.bool false), T.v (.bool false), T.v (.bool false), T.v (.bool false), T.v (.bool false), T.v (.bool false), T.v (.bool false), T.v (.bool false), T.v (.bool false), T.v (.bool false), T.v (.bool false), T.v (.bool false), T.v (.bool false), T.v (.bool false), T.v (.bool false), T.v (.bool false), T.v (.bool false), T.v (.bool false), T.v (.bool false), T.v (.bool false), T.v (.bool false), T.v (.bool false), T.v (.bool false), T.v (.bool false), T.v (.bool false), T.v (.bool false), T.v (.bool false), T.v (.bool false), T.v (.bool false), T.v (.bool false), T.v (.bool false), T.v (.bool false), T.v (.bool false), T.v (.bool false), T.v (.bool false), T.v (.bool false), T.v (.bool false), T.v (.bool false), T.v (.bool false), T.v (.bool false), T.v (.bool false), T.v (.bool false), T.v (.bool false), T.v (.bool false), T.v (.bool false), T.v (.bool false), T.v (.bool false), T.v (.bool false), T.v (.bool false), T.v (.bool false), T.v (.bool false), T.v (.bool false), T.v (.bool false), T.v (.bool false), T.v (.bool false), T.v (.bool false), T.v (.bool false), T.v (.bool false), T.v (.bool false), T.v (.bool false), T.v (.bool false), T.v (.bool false), T.v (.bool false), T.v (.bool false), T.v (.bool false), T.v (.bool false), T.v (.bool false), T.v (.bool false), T.v (.bool false), T.v (.bool false), T.v (.bool false), T.v (.bool false), T.v (.bool false), T.v (.bool false), T.v (.bool false), T.v (.bool false), T.v (.bool false), T.v (.bool false), T.v (.bool false), T.v (.bool false), T.v (.bool false), T.v (.bool false), T.v (.bool false), T.v (.bool false), T.v (.bool false), T.v (.bool false), T.v (.bool false), T.v (.bool false), T.v (.bool false), T.v (.bool false), T.v (.bool false), T.v (.bool false), T.v (.bool false), T.v (.bool false), T.v (.bool false), T.v (.bool false), T.v (.bool false), T.v (.bool false), T.v (.bool false), T.v (.bool false), T.v (.bool false), T.v (.bool false), T.v (.bool false), T.v (.bool false), T.v (.bool false), T.v (.bool false), T.v (.bool false), T.v (.bool false), T.v (.bool false), T.v (.bool false), T.v (.bool false), T.v (.bool false), T.v (.bool false), T.v (.bool false), T.v (.bool false), T.v (.bool false), T.v (.bool false), T.v (.bool false), T.v (.bool false), T.v (.bool false), T.v (.bool false), T.v (.bool false), T.v (.bool false), T.v (.bool false), T.v (.bool false), T.v (.bool false)] : List T) = List.replicate 256 (.v (.bool false)) := rfl

/-- The bits, of those below one, that are set or that are not. -/
def B8g (n : Nat) (q : Bool) : Nat → Nat
 | 0 => 0
 | i + 1 => if (n.testBit i != q) then B8g n q i ||| 2 ^ i else B8g n q i

theorem D02 (n : Nat) (q : Bool) : ∀ (i j : Nat), (B8g n q i).testBit j = (decide (j < i) && (n.testBit j != q))
 | 0, j => by simp [B8g]
 | i + 1, j => by
  have ih := D02 n q i j
  simp only [B8g]
  split
  ·rename_i h
   rw [Nat.testBit_or, ih, Nat.testBit_two_pow]
   by_cases e : i = j
   ·subst e; simp [h]
   ·simp [e, show (j < i + 1) ↔ (j < i) from by omega]
  ·rename_i h
   rw [ih]
   by_cases e : i = j
   ·subst e; simp at h; simp [h]
   ·simp [show (j < i + 1) ↔ (j < i) from by omega]

theorem D6z {n : Nat} (hn : n < 2 ^ 256) (q : Bool) : B8g n q 256 = if q then D17 n else n := by
 apply Nat.eq_of_testBit_eq
 intro j
 rw [D02]
 by_cases hj : j < 256
 ·cases q
  ·simp [hj]
  ·simp [hj, D4m n j hn hj]
 ·have hb : ∀ m, m < 2 ^ 256 → m.testBit j = false := fun m hm => Nat.testBit_lt_two_pow (Nat.lt_of_lt_of_le hm (Nat.pow_le_pow_right (by decide) (by omega)))
  cases q
  ·simp [hj, hb n hn]
  ·simp [hj, hb _ (D6v n)]

theorem P9 {io : List Nat} {env : List (Nat × AV)} {sto : List (Nat × Ob)} {env' : List (Nat × AV)} {sto' : List (Nat × Ob)} (rn : List (Nat × Nat)) (sn : List Nat)
  (h1 : A6s sto sn rn env sto' env' := by simp [A6s, go_sem, G1, G2, AV.ids, B5, A4, ren, A9, B1, AV.asOwn, B3, AV.isNil, J8, B6, B4, B8, A2j, I3, pst, D4h, D26, D10] <;> assumption)
  (h2 : A1t sto sn rn sto' sto' := by simp [A1t, go_sem, G1, G2, wkO, AV.ids, Ob.ids, B5, A4, ren, AV.one, A9, B1, AV.asOwn, B3, AV.isNil, J8, B6, B4, B8, A2j, I3, pst, D4h, D26, D10] <;> assumption)
  (h3 : ((A4 sto').map (ren rn)).Nodup := by simp [A4, ren]) (h4 : ∀ i ∈ sn, 100 ≤ i ∧ A2d (A9 sto i) = true ∧ ∀ j ∈ A4 sto', ren rn j ≠ i := by simp [A9, A4, ren])
  (h5 : ∀ i ∈ io, ren rn i = i := by simp [A4, ren]) (h6 : ∀ i ∈ A4 sto', ren rn i ∈ io → i = ren rn i := by simp [A4, ren]) :
  Sub io ⟨H1 env, A9 sto⟩ ⟨H1 env', A9 sto'⟩ := C0t rn sn h1 h2 h3 h4 h5 h6

theorem D12 (sto : Nat → Option Ob) (sn : List Nat) (f : Nat → Nat) (g : Nat → Bool) : ∀ l : List Nat, G2 sto sn f (l.map fun i => Bo (g i)) (l.map fun i => Bo (g i))
 | [] => by simp only [List.map_nil, G2]
 | _ :: l => by
  simp only [List.map_cons, G2]
  exact ⟨by simp only [G1], D12 sto sn f g l⟩

theorem D4h (sto : Nat → Option Ob) (sn : List Nat) (f : Nat → Nat) (n : Nat) : G2 sto sn f (A1k n) (A1k n) := D12 sto sn f _ _

theorem D26 (n : Nat) : (A1k n).all AV.one = true := by
 rw [List.all_eq_true]
 intro x hx
 obtain ⟨i, _, rfl⟩ := List.mem_map.1 hx
 rfl

theorem A0m (n : Nat) : (A1k n).length = 256 := by rw [A1k, List.length_map, List.length_range]

theorem C0h (n i : Nat) (h : i < 256) : List.take i (A1k n) ++ [Bo true] ++ List.drop (i + 1) (A1k n) = A1k (n ||| 2 ^ i) := by
 rw [← D7a n i h, List.set_eq_take_append_cons_drop, if_pos (by rw [A0m]; exact h), List.append_assoc]
 rfl

theorem C7d (g : Nat → Bool) : ∀ l : List Nat, B5 (l.map fun i => Bo (g i)) = []
 | [] => rfl
 | _ :: l => by
  simp only [List.map_cons, B5, AV.ids, List.nil_append]
  exact C7d g l

theorem D10 (n : Nat) : B5 (A1k n) = [] := C7d _ _

set_option maxRecDepth 20000 in
set_option maxHeartbeats 8000000 in
theorem C76 (s : ByteArray) (rest : List UInt8) (h : Suf s rest) (hs : s.size < 4611686018427387904) : Meets Tryz.prog E0 B0t [.t (.v (.string s)), I ((s.size - rest.length : Nat) : Int)] [] (.tp [C2i (if (A15 rest).2.1 then (A15 rest).1 else 0, false), I ((if (A15 rest).2.1 then s.size - (A15 rest).2.2.length else 0 : Nat) : Int), Bo (A15 rest).2.1]) [] := by
 refine X6 C74 ?_
 have hl := h.len
 have hsl := A3k s
 have hsuf : Suf s (K0 94 rest).2 := (A30 94 rest).trans h
 simp only [B70]
 rw [E26]
 have hb0 : (List.replicate 256 (T.v (.bool false))).map AV.t = A1k 0 := by rw [← D6e, List.map_replicate]
 have hcs : (rest = [] ∧ K0 94 rest = (false, [])) ∨ (∃ c r, rest = c :: r ∧ decide (c.toNat = 94) = false ∧ K0 94 rest = (false, c :: r)) ∨ (∃ c r, rest = c :: r ∧ decide (c.toNat = 94) = true ∧ K0 94 rest = (true, r)) := by
  cases rest with
  | nil => exact Or.inl ⟨rfl, rfl⟩
  | cons c r =>
   right
   by_cases e : c.toNat = 94
   ·exact Or.inr ⟨c, r, rfl, by simp [e], by simp [K0, e]⟩
   ·exact Or.inl ⟨c, r, rfl, by simp [e], by simp [K0, e]⟩
 unfold A15
 generalize hsk : K0 94 rest = sk at *
 generalize hx : S3 sk.2 false 0 = x
 have hxl : x.1 < 2 ^ 256 := by rw [← hx]; exact B67 _ _ _ _ (Nat.le_refl _) (Nat.two_pow_pos _)
 rcases hcs with ⟨rfl, hk⟩ | ⟨c, r, rfl, hc, hk⟩ | ⟨c, r, rfl, hc, hk⟩
 case' inl =>
  have d0 : decide (s.size < s.size) = false := by simp
  simp only [go_sem, hb0, d0, List.length_nil, Nat.sub_zero]
 case' inr.inl =>
  have hg := h.get 0
  simp only [List.length_cons, Nat.add_zero, List.getElem?_cons_zero] at hg hl
  have d0 : decide (s.size - (r.length + 1) < s.size) = true := by simp; omega
  simp only [go_sem, hb0, hg, hc, d0]
 case' inr.inr =>
  have hg := h.get 0
  simp only [List.length_cons, Nat.add_zero, List.getElem?_cons_zero] at hg hl
  have d0 : decide (s.size - (r.length + 1) < s.size) = true := by simp; omega
  have e1 : IntKind.i64.wrap (((s.size - (r.length + 1) : Nat) : Int) + 1) = ((s.size - r.length : Nat) : Int) := by rw [A5 (by omega) (by omega)]; omega
  simp only [go_sem, hb0, hg, hc, d0, e1]
 all_goals
  refine C8 (fun i : List UInt8 × Nat × Nat => i.1.length) (fun i => Suf s i.1 ∧ i.2.1 + i.1.length ≤ s.size ∧ i.2.2 < 2 ^ 256 ∧ S3 i.1 (decide (0 < i.2.1)) i.2.2 = x)
   (fun i => [(0, .t (.v (.string s))), (1, I ((s.size - i.1.length : Nat) : Int)), (4, .ptr 100 0), (5, I 0), (6, Bo false), (7, .ptr 103 0), (8, Bo sk.1), (9, I i.2.1)])
   (fun i => [(100, .box (I3 0 ++ [Bo false])), (103, .box (A1k i.2.2))])
   (sk.2, 0, 0) ⟨hsuf, by have := hsuf.len; simpa using this, Nat.two_pow_pos _, by simpa using hx⟩ ?_ ?_
  ·subst hk
   dsimp only at *
   exact (P9 [] [])
  ·clear hk
   rintro ⟨l, k, n⟩ ⟨hl, hk, hn, hr⟩
   simp only at hl hk hn hr
   have hlen := hl.len
   cases l with
   | nil =>
    simp only [S3] at hr
    subst hr
    have d0 : decide (s.size < s.size) = false := by simp
    simp only [go_sem, d0, List.length_nil, Nat.sub_zero, Nat.le_refl, decide_true, P8, A34]
    refine wE ?_
    simp only [go_sem, A3r]
    simp
   | cons c r =>
    have hc := A7n c
    have hlr : Suf s r := hl.tail
    simp only [List.length_cons] at hk hlen
    have g0 := hl.get 0
    simp only [List.length_cons, Nat.add_zero, List.getElem?_cons_zero] at g0
    have d0 : decide (s.size - (r.length + 1) < s.size) = true := by simp; omega
    have w2 : IntKind.i64.wrap ((s.size : Int) - 2) = (s.size : Int) - 2 := by rw [A5 (by omega) (by omega)]
    cases h93 : decide (c.toNat = 93)
    ·have q93 := of_decide_eq_false h93
     have wc : IntKind.i64.wrap (c.toNat : Int) = (c.toNat : Int) := by rw [A5 (by omega) (by omega)]
     have dcc : decide (c.toNat < c.toNat) = false := by simp
     have one : U5 r = false → S3 r true (A1j n c.toNat 1) = x := fun hrg => by
      rw [B2y c r _ n q93 hrg, show n ||| 2 ^ c.toNat = A1j n c.toNat 1 from rfl] at hr
      exact hr
     rcases (show r.length < 2 ∨ 2 ≤ r.length from by omega) with hr2 | hr2
     ·have d1 : decide (((s.size - (r.length + 1) : Nat) : Int) < (s.size : Int) - 2) = false := by simp; omega
      have hrg : U5 r = false := by
       match r, hr2 with
       | [], _ => rfl
       | [_], _ => rfl
      have hr := one hrg
      simp only [go_sem, P8, d0, g0, h93, w2, d1, dcc, wc, Bool.not_false]
      refine C8 (fun j : Nat => c.toNat + 1 - c.toNat - j) (fun j => c.toNat + j ≤ c.toNat + 1)
       (fun j => [(0, .t (.v (.string s))), (1, I ((s.size - (r.length + 1) : Nat) : Int)), (4, .ptr 100 0), (5, I 0), (6, Bo false), (7, .ptr 103 0), (8, Bo sk.1), (9, I k), (11, U8 c.toNat), (12, I ((c.toNat + j : Nat) : Int))])
       (fun j => [(100, .box (I3 0 ++ [Bo false])), (103, .box (A1k (A1j n c.toNat j)))]) 0 (by omega) ?_ ?_
      ·rw [show A1j n c.toNat 0 = n from rfl]
       exact (P9 [] [])
      ·intro j hj
       simp only [go_sem, A17, wc]
       refine G3 rfl (fun h1 => ?_) (fun h1 => ?_)
       ·simp at h1
        have q1 : ((c.toNat + j : Nat) : Int) < ((256 : Nat) : Int) := by omega
        have q2 : c.toNat + j + 1 ≤ 256 := by omega
        have ej : IntKind.i64.wrap (((c.toNat + j : Nat) : Int) + 1) = ((c.toNat + (j + 1) : Nat) : Int) := by rw [A5 (by omega) (by omega)]; omega
        have hput := C0h (A1j n c.toNat j) (c.toNat + j) (by omega)
        simp only [go_sem, q1, q2, ej, A0m, hput]
        refine C3 (j + 1) (by first | omega | (simp only; omega)) (by first | omega | (simp only; omega)) ?_
        rw [A25]
        exact (P9 [] [])
       ·simp at h1
        have ej : j = c.toNat + 1 - c.toNat := by omega
        subst ej
        have ea : IntKind.i64.wrap (((s.size - (r.length + 1) : Nat) : Int) + 1) = ((s.size - r.length : Nat) : Int) := by rw [A5 (by omega) (by omega)]; omega
        have ek : IntKind.i64.wrap ((k : Int) + 1) = ((k + 1 : Nat) : Int) := by rw [A5 (by omega) (by omega)]; omega
        simp only [go_sem, A19, ea, ek]
        refine C3 (r, k + 1, A1j n c.toNat (c.toNat + 1 - c.toNat)) (by simp; try omega) ⟨hlr, by simp only; omega, A86 _ _ _ hn (by omega), by rw [Nat.add_sub_cancel_left]; simpa using hr⟩ ?_
        exact (P9 [] [])
     ·obtain ⟨d, x2, r', rfl⟩ : ∃ d x2 r', r = d :: x2 :: r' := by
       match r, hr2 with
       | d :: x2 :: r', _ => exact ⟨d, x2, r', rfl⟩
      have hlc : (d :: x2 :: r').length = r'.length + 2 := rfl
      have g1 := hl.get 1
      have g2 := hl.get 2
      simp only [List.length_cons, List.getElem?_cons_succ, List.getElem?_cons_zero] at g0 g1 g2 d0 hlen hk hr2
      have d1 : decide (((s.size - (r'.length + 1 + 1 + 1) : Nat) : Int) < (s.size : Int) - 2) = true := by simp; omega
      have e1 : IntKind.i64.wrap (((s.size - (r'.length + 1 + 1 + 1) : Nat) : Int) + 1) = ((s.size - (r'.length + 1 + 1 + 1) + 1 : Nat) : Int) := by rw [A5 (by omega) (by omega)]; omega
      have e2 : IntKind.i64.wrap (((s.size - (r'.length + 1 + 1 + 1) : Nat) : Int) + 2) = ((s.size - (r'.length + 1 + 1 + 1) + 2 : Nat) : Int) := by rw [A5 (by omega) (by omega)]; omega
      have wx : IntKind.i64.wrap (x2.toNat : Int) = (x2.toNat : Int) := by have := A7n x2; rw [A5 (by omega) (by omega)]
      have hx2 := A7n x2
      cases hd : decide (d.toNat = 45)
      ·have qd := of_decide_eq_false hd
       have hr := one (by simp [U5, qd])
       simp only [go_sem, P8, List.length_cons, d0, g0, g1, g2, e1, e2, hd, h93, w2, d1, dcc, wc, Bool.not_false]
       refine C8 (fun j : Nat => c.toNat + 1 - c.toNat - j) (fun j => c.toNat + j ≤ c.toNat + 1)
        (fun j => [(0, .t (.v (.string s))), (1, I ((s.size - ((d :: x2 :: r').length + 1) : Nat) : Int)), (4, .ptr 100 0), (5, I 0), (6, Bo false), (7, .ptr 103 0), (8, Bo sk.1), (9, I k), (11, U8 c.toNat), (12, I ((c.toNat + j : Nat) : Int))])
        (fun j => [(100, .box (I3 0 ++ [Bo false])), (103, .box (A1k (A1j n c.toNat j)))]) 0 (by omega) ?_ ?_
       ·rw [show A1j n c.toNat 0 = n from rfl]
        exact (P9 [] [])
       ·intro j hj
        simp only [go_sem, A17, wc]
        refine G3 rfl (fun h1 => ?_) (fun h1 => ?_)
        ·simp at h1
         have q1 : ((c.toNat + j : Nat) : Int) < ((256 : Nat) : Int) := by omega
         have q2 : c.toNat + j + 1 ≤ 256 := by omega
         have ej : IntKind.i64.wrap (((c.toNat + j : Nat) : Int) + 1) = ((c.toNat + (j + 1) : Nat) : Int) := by rw [A5 (by omega) (by omega)]; omega
         have hput := C0h (A1j n c.toNat j) (c.toNat + j) (by omega)
         simp only [go_sem, q1, q2, ej, A0m, hput]
         refine C3 (j + 1) (by first | omega | (simp only; omega)) (by first | omega | (simp only; omega)) ?_
         rw [A25]
         exact (P9 [] [])
        ·simp at h1
         have ej : j = c.toNat + 1 - c.toNat := by omega
         subst ej
         have ea : IntKind.i64.wrap (((s.size - ((d :: x2 :: r').length + 1) : Nat) : Int) + 1) = ((s.size - (d :: x2 :: r').length : Nat) : Int) := by rw [A5 (by omega) (by omega)]; omega
         have ek : IntKind.i64.wrap ((k : Int) + 1) = ((k + 1 : Nat) : Int) := by rw [A5 (by omega) (by omega)]; omega
         simp only [go_sem, A19, ea, ek]
         refine C3 ((d :: x2 :: r'), k + 1, A1j n c.toNat (c.toNat + 1 - c.toNat)) (by simp; try omega) ⟨hlr, by simp only; omega, A86 _ _ _ hn (by omega), by rw [Nat.add_sub_cancel_left]; simpa using hr⟩ ?_
         exact (P9 [] [])
      ·have qd := of_decide_eq_true hd
       cases hx93 : decide (x2.toNat = 93)
       ·have qx := of_decide_eq_false hx93
        have hrg : U5 (d :: x2 :: r') = true := by simp [U5, qd, qx]
        rw [A80 c d x2 r' _ n q93 hrg] at hr
        have e3 : ((s.size - (r'.length + 1 + 1 + 1) + 2 : Nat) : Int) = ((s.size - (r'.length + 1) : Nat) : Int) := by omega
        cases hlt : decide (x2.toNat < c.toNat)
        ·have qlt := of_decide_eq_false hlt
         rw [if_neg qlt] at hr
         have g3 := hlr.tail.get 0
         simp only [List.length_cons, Nat.add_zero, List.getElem?_cons_zero] at g3
         simp only [go_sem, P8, List.length_cons, d0, g0, g1, g3, e1, e2, hd, hx93, hlt, h93, w2, d1, dcc, wc, Bool.not_false, e3]
         refine C8 (fun j : Nat => x2.toNat + 1 - c.toNat - j) (fun j => c.toNat + j ≤ x2.toNat + 1)
          (fun j => [(0, .t (.v (.string s))), (1, I ((s.size - (r'.length + 1) : Nat) : Int)), (4, .ptr 100 0), (5, I 0), (6, Bo false), (7, .ptr 103 0), (8, Bo sk.1), (9, I k), (11, U8 x2.toNat), (12, I ((c.toNat + j : Nat) : Int))])
          (fun j => [(100, .box (I3 0 ++ [Bo false])), (103, .box (A1k (A1j n c.toNat j)))]) 0 (by omega) ?_ ?_
         ·rw [show A1j n c.toNat 0 = n from rfl]
          exact (P9 [] [])
         ·intro j hj
          simp only [go_sem, A17, wx]
          refine G3 rfl (fun h1 => ?_) (fun h1 => ?_)
          ·simp at h1
           have q1 : ((c.toNat + j : Nat) : Int) < ((256 : Nat) : Int) := by omega
           have q2 : c.toNat + j + 1 ≤ 256 := by omega
           have ej : IntKind.i64.wrap (((c.toNat + j : Nat) : Int) + 1) = ((c.toNat + (j + 1) : Nat) : Int) := by rw [A5 (by omega) (by omega)]; omega
           have hput := C0h (A1j n c.toNat j) (c.toNat + j) (by omega)
           simp only [go_sem, q1, q2, ej, A0m, hput]
           refine C3 (j + 1) (by first | omega | (simp only; omega)) (by first | omega | (simp only; omega)) ?_
           rw [A25]
           exact (P9 [] [])
          ·simp at h1
           have ej : j = x2.toNat + 1 - c.toNat := by omega
           subst ej
           have ea : IntKind.i64.wrap (((s.size - (r'.length + 1) : Nat) : Int) + 1) = ((s.size - r'.length : Nat) : Int) := by rw [A5 (by omega) (by omega)]; omega
           have ek : IntKind.i64.wrap ((k : Int) + 1) = ((k + 1 : Nat) : Int) := by rw [A5 (by omega) (by omega)]; omega
           simp only [go_sem, A19, ea, ek]
           refine C3 (r', k + 1, A1j n c.toNat (x2.toNat + 1 - c.toNat)) (by simp; try omega) ⟨hlr.tail.tail, by simp only; omega, A86 _ _ _ hn (by omega), by simpa using hr⟩ ?_
           exact (P9 [] [])
        ·rw [if_pos (of_decide_eq_true hlt)] at hr
         subst hr
         simp only [go_sem, P8, List.length_cons, d0, g0, g1, g2, e1, e2, hd, hx93, hlt, h93, w2, d1, dcc, wc, Bool.not_false]
         refine wE ?_
         simp only [go_sem, A3r]
         simp
       ·have qx := of_decide_eq_true hx93
        have hr := one (by simp [U5, qx])
        simp only [go_sem, P8, List.length_cons, d0, g0, g1, g2, e1, e2, hd, hx93, h93, w2, d1, dcc, wc, Bool.not_false, Bool.not_true]
        refine C8 (fun j : Nat => c.toNat + 1 - c.toNat - j) (fun j => c.toNat + j ≤ c.toNat + 1)
         (fun j => [(0, .t (.v (.string s))), (1, I ((s.size - ((d :: x2 :: r').length + 1) : Nat) : Int)), (4, .ptr 100 0), (5, I 0), (6, Bo false), (7, .ptr 103 0), (8, Bo sk.1), (9, I k), (11, U8 c.toNat), (12, I ((c.toNat + j : Nat) : Int))])
         (fun j => [(100, .box (I3 0 ++ [Bo false])), (103, .box (A1k (A1j n c.toNat j)))]) 0 (by omega) ?_ ?_
        ·rw [show A1j n c.toNat 0 = n from rfl]
         exact (P9 [] [])
        ·intro j hj
         simp only [go_sem, A17, wc]
         refine G3 rfl (fun h1 => ?_) (fun h1 => ?_)
         ·simp at h1
          have q1 : ((c.toNat + j : Nat) : Int) < ((256 : Nat) : Int) := by omega
          have q2 : c.toNat + j + 1 ≤ 256 := by omega
          have ej : IntKind.i64.wrap (((c.toNat + j : Nat) : Int) + 1) = ((c.toNat + (j + 1) : Nat) : Int) := by rw [A5 (by omega) (by omega)]; omega
          have hput := C0h (A1j n c.toNat j) (c.toNat + j) (by omega)
          simp only [go_sem, q1, q2, ej, A0m, hput]
          refine C3 (j + 1) (by first | omega | (simp only; omega)) (by first | omega | (simp only; omega)) ?_
          rw [A25]
          exact (P9 [] [])
         ·simp at h1
          have ej : j = c.toNat + 1 - c.toNat := by omega
          subst ej
          have ea : IntKind.i64.wrap (((s.size - ((d :: x2 :: r').length + 1) : Nat) : Int) + 1) = ((s.size - (d :: x2 :: r').length : Nat) : Int) := by rw [A5 (by omega) (by omega)]; omega
          have ek : IntKind.i64.wrap ((k : Int) + 1) = ((k + 1 : Nat) : Int) := by rw [A5 (by omega) (by omega)]; omega
          simp only [go_sem, A19, ea, ek]
          refine C3 ((d :: x2 :: r'), k + 1, A1j n c.toNat (c.toNat + 1 - c.toNat)) (by simp; try omega) ⟨hlr, by simp only; omega, A86 _ _ _ hn (by omega), by rw [Nat.add_sub_cancel_left]; simpa using hr⟩ ?_
          exact (P9 [] [])
    ·have q93 := of_decide_eq_true h93
     rw [B2w c r _ n q93] at hr
     subst hr
     have d2 : decide (s.size ≤ s.size - (r.length + 1)) = false := by simp; omega
     cases hk0 : decide ((k : Int) = 0)
     ·have qk := of_decide_eq_false hk0
      have hkp : decide (0 < k) = true := by simp; omega
      simp only [go_sem, P8, d0, g0, h93, d2, hk0, A34, hkp]
      have hq : ∀ b : Bool, (b == sk.1) = !(b != sk.1) := by intro b; cases b <;> cases sk.1 <;> rfl
      refine C8 (fun i : Nat => 256 - i) (fun i => i ≤ 256)
       (fun i => [(0, .t (.v (.string s))), (1, I ((s.size - (r.length + 1) : Nat) : Int)), (4, .ptr 100 0), (7, .ptr 103 0), (8, Bo sk.1), (13, .ptr 203 0), (14, I i)])
       (fun i => [(100, .box (I3 0 ++ [Bo false])), (103, .box (A1k n)), (203, .box (I3 (B8g n sk.1 i) ++ [Bo false]))]) 0 (by omega) ?_ ?_
      ·rw [show B8g n sk.1 0 = 0 from rfl]
       exact (P9 [] [])
      ·intro i hi
       simp only [go_sem, B1s]
       refine G3 rfl (fun h1 => ?_) (fun h1 => ?_)
       ·simp at h1
        have q1 : (i : Int) < ((256 : Nat) : Int) := by omega
        have q2 : i + 1 ≤ 256 := by omega
        have ei : IntKind.i64.wrap ((i : Int) + 1) = ((i + 1 : Nat) : Int) := by rw [A5 (by omega) (by omega)]; omega
        have hget : (List.drop i (A1k n))[0]? = some (Bo (n.testBit i)) := by rw [List.getElem?_drop, Nat.add_zero]; exact D7q n i (by omega)
        cases hb : (n.testBit i != sk.1)
        ·have hb' : (!(n.testBit i == sk.1)) = false := hb
         simp only [go_sem, q1, q2, ei, A0m, hget, hb']
         refine C3 (i + 1) (by first | omega | (simp only; omega)) (by first | omega | (simp only; omega)) ?_
         rw [show B8g n sk.1 (i + 1) = B8g n sk.1 i from by simp only [B8g, hb]; rfl]
         exact (P9 [] [])
        ·have hb' : (!(n.testBit i == sk.1)) = true := hb
         have hsel : B8g n sk.1 (i + 1) = B8g n sk.1 i ||| 2 ^ i := by simp only [B8g, hb]; rfl
         generalize hm : B8g n sk.1 i = m at *
         have hmin : min (i % 64) 64 = i % 64 := Nat.min_eq_left (by omega)
         have h4 : i / 64 = 0 ∨ i / 64 = 1 ∨ i / 64 = 2 ∨ i / 64 = 3 := by omega
         have i4 : ∀ j : Nat, j < 4 → (j : Int) < ((4 : Nat) : Int) := by omega
         have o1 : i / 64 ≠ 0 → (m ||| 2 ^ i) % 18446744073709551616 = m % 18446744073709551616 := fun h => by rw [B4y, B4y, V7 _ _ _ h]
         have o2 : i / 64 ≠ 1 → (m ||| 2 ^ i) / 18446744073709551616 % 18446744073709551616 = m / 18446744073709551616 % 18446744073709551616 := fun h => by rw [B5q, B5q, V7 _ _ _ h]
         have o3 : i / 64 ≠ 2 → (m ||| 2 ^ i) / 340282366920938463463374607431768211456 % 18446744073709551616 = m / 340282366920938463463374607431768211456 % 18446744073709551616 := fun h => by rw [B5n, B5n, V7 _ _ _ h]
         have o4 : i / 64 ≠ 3 → (m ||| 2 ^ i) / (18446744073709551616 * 340282366920938463463374607431768211456) % 18446744073709551616 = m / (18446744073709551616 * 340282366920938463463374607431768211456) % 18446744073709551616 := fun h => by rw [B5c, B5c, V7 _ _ _ h]
         have p0 : 2 ^ (i % 64) % 18446744073709551616 = 2 ^ (i % 64) := Nat.mod_eq_of_lt (Nat.pow_lt_pow_right (n := 64) (by decide) (by omega))
         have p1 : i / 64 = 0 → (m ||| 2 ^ i) % 18446744073709551616 = m % 18446744073709551616 % 18446744073709551616 ||| 2 ^ (i % 64) := fun h => by rw [Nat.mod_mod, B4y, B4y, Y7 _ _ _ h]
         have p2 : i / 64 = 1 → (m ||| 2 ^ i) / 18446744073709551616 % 18446744073709551616 = m / 18446744073709551616 % 18446744073709551616 % 18446744073709551616 ||| 2 ^ (i % 64) := fun h => by rw [Nat.mod_mod, B5q, B5q, Y7 _ _ _ h]
         have p3 : i / 64 = 2 → (m ||| 2 ^ i) / 340282366920938463463374607431768211456 % 18446744073709551616 = m / 340282366920938463463374607431768211456 % 18446744073709551616 % 18446744073709551616 ||| 2 ^ (i % 64) := fun h => by rw [Nat.mod_mod, B5n, B5n, Y7 _ _ _ h]
         have p4 : i / 64 = 3 → (m ||| 2 ^ i) / (18446744073709551616 * 340282366920938463463374607431768211456) % 18446744073709551616 = m / (18446744073709551616 * 340282366920938463463374607431768211456) % 18446744073709551616 % 18446744073709551616 ||| 2 ^ (i % 64) := fun h => by rw [Nat.mod_mod, B5c, B5c, Y7 _ _ _ h]
         rcases h4 with h4 | h4 | h4 | h4
         ·have e1 := p1 h4
          have e2 := o2 (by omega)
          have e3 := o3 (by omega)
          have e4 := o4 (by omega)
          have iq : (i : Int) / 64 = ((0 : Nat) : Int) := by omega
          have wu : IntKind.u64.wrap ((i % 64 : Nat) : Int) = ((i % 64 : Nat) : Int) := by rw [R4]; omega
          have ir : (i : Int) % 64 = ((i % 64 : Nat) : Int) := by omega
          ((try simp only [go_sem, q1, q2, ei, A0m, hget, hb', h4, iq, ir, wu, hmin, p0, i4 0 (by decide), I3]); repeat (simp (disch := omega) only [A5, C4, C1, J1, J6]; (try simp only [go_sem, q1, q2, ei, A0m, hget, hb', h4, iq, ir, wu, hmin, p0, i4 0 (by decide), I3])))
          refine C3 (i + 1) (by first | omega | (simp only; omega)) (by first | omega | (simp only; omega)) ?_
          rw [hsel]
          simp only [I3, e1, e2, e3, e4]
          exact (P9 [] [])
         ·have e1 := o1 (by omega)
          have e2 := p2 h4
          have e3 := o3 (by omega)
          have e4 := o4 (by omega)
          have iq : (i : Int) / 64 = ((1 : Nat) : Int) := by omega
          have wu : IntKind.u64.wrap ((i % 64 : Nat) : Int) = ((i % 64 : Nat) : Int) := by rw [R4]; omega
          have ir : (i : Int) % 64 = ((i % 64 : Nat) : Int) := by omega
          ((try simp only [go_sem, q1, q2, ei, A0m, hget, hb', h4, iq, ir, wu, hmin, p0, i4 1 (by decide), I3]); repeat (simp (disch := omega) only [A5, C4, C1, J1, J6]; (try simp only [go_sem, q1, q2, ei, A0m, hget, hb', h4, iq, ir, wu, hmin, p0, i4 1 (by decide), I3])))
          refine C3 (i + 1) (by first | omega | (simp only; omega)) (by first | omega | (simp only; omega)) ?_
          rw [hsel]
          simp only [I3, e1, e2, e3, e4]
          exact (P9 [] [])
         ·have e1 := o1 (by omega)
          have e2 := o2 (by omega)
          have e3 := p3 h4
          have e4 := o4 (by omega)
          have iq : (i : Int) / 64 = ((2 : Nat) : Int) := by omega
          have wu : IntKind.u64.wrap ((i % 64 : Nat) : Int) = ((i % 64 : Nat) : Int) := by rw [R4]; omega
          have ir : (i : Int) % 64 = ((i % 64 : Nat) : Int) := by omega
          ((try simp only [go_sem, q1, q2, ei, A0m, hget, hb', h4, iq, ir, wu, hmin, p0, i4 2 (by decide), I3]); repeat (simp (disch := omega) only [A5, C4, C1, J1, J6]; (try simp only [go_sem, q1, q2, ei, A0m, hget, hb', h4, iq, ir, wu, hmin, p0, i4 2 (by decide), I3])))
          refine C3 (i + 1) (by first | omega | (simp only; omega)) (by first | omega | (simp only; omega)) ?_
          rw [hsel]
          simp only [I3, e1, e2, e3, e4]
          exact (P9 [] [])
         ·have e1 := o1 (by omega)
          have e2 := o2 (by omega)
          have e3 := o3 (by omega)
          have e4 := p4 h4
          have iq : (i : Int) / 64 = ((3 : Nat) : Int) := by omega
          have wu : IntKind.u64.wrap ((i % 64 : Nat) : Int) = ((i % 64 : Nat) : Int) := by rw [R4]; omega
          have ir : (i : Int) % 64 = ((i % 64 : Nat) : Int) := by omega
          ((try simp only [go_sem, q1, q2, ei, A0m, hget, hb', h4, iq, ir, wu, hmin, p0, i4 3 (by decide), I3]); repeat (simp (disch := omega) only [A5, C4, C1, J1, J6]; (try simp only [go_sem, q1, q2, ei, A0m, hget, hb', h4, iq, ir, wu, hmin, p0, i4 3 (by decide), I3])))
          refine C3 (i + 1) (by first | omega | (simp only; omega)) (by first | omega | (simp only; omega)) ?_
          rw [hsel]
          simp only [I3, e1, e2, e3, e4]
          exact (P9 [] [])
       ·have e : i = 256 := by simp at h1; omega
        subst e
        have ea : IntKind.i64.wrap (((s.size - (r.length + 1) : Nat) : Int) + 1) = ((s.size - r.length : Nat) : Int) := by rw [A5 (by omega) (by omega)]; omega
        simp only [go_sem, B2d, ea]
        refine wE ?_
        simp only [go_sem, A3r, hkp, D6z hn]
        cases sk.1 <;> simp
     ·have qk := of_decide_eq_true hk0
      have hkp : decide (0 < k) = false := by simp; omega
      simp only [go_sem, P8, d0, g0, h93, d2, hk0, A34]
      refine wE ?_
      simp only [go_sem, A3r, hkp]
      simp

theorem B6b {io : List Nat} {env : List (Nat × AV)} {sto : List (Nat × Ob)} {env' : List (Nat × AV)} {sto' : List (Nat × Ob)} (rn : List (Nat × Nat)) (sn : List Nat)
  (h1 : A6s sto sn rn env sto' env' := by simp [A6s, go_sem, G1, G2, AV.ids, B5, A4, ren, A9, B1, AV.asOwn, B3, AV.isNil, J8, B6, B4, B8, A2j, I3, pst] <;> assumption)
  (h2 : A1t sto sn rn sto' sto' := by simp [A1t, go_sem, G1, G2, wkO, AV.ids, Ob.ids, B5, A4, ren, AV.one, A9, B1, AV.asOwn, B3, AV.isNil, J8, B6, B4, B8, A2j, I3, pst] <;> assumption)
  (h3 : ((A4 sto').map (ren rn)).Nodup := by simp [A4, ren]) (h4 : ∀ i ∈ sn, 100 ≤ i ∧ A2d (A9 sto i) = true ∧ ∀ j ∈ A4 sto', ren rn j ≠ i := by simp [A9, A4, ren])
  (h5 : ∀ i ∈ io, ren rn i = i := by simp [A4, ren]) (h6 : ∀ i ∈ A4 sto', ren rn i ∈ io → i = ren rn i := by simp [A4, ren]) :
  Sub io ⟨H1 env, A9 sto⟩ ⟨H1 env', A9 sto'⟩ := C0t rn sn h1 h2 h3 h4 h5 h6

theorem B4w {a b : Nat} (h : ¬ a = b) : decide (a = b) = false := by simpa using h

theorem C07 {a b : Nat} (h : a = b) : decide (a = b) = true := by simpa using h

theorem D3v : ∃ n : Nat, n = C8y ∧ n % 18446744073709551616 = 18446744073709551615 ∧ n / 18446744073709551616 % 18446744073709551616 = 18446744073709551615 ∧ n / 340282366920938463463374607431768211456 % 18446744073709551616 = 18446744073709551615 ∧ n / (18446744073709551616 * 340282366920938463463374607431768211456) % 18446744073709551616 = 18446744073709551615 :=
 ⟨C8y, rfl, by decide, by decide, by decide, by decide⟩

set_option maxRecDepth 20000 in
set_option maxHeartbeats 8000000 in
theorem C30 (s : ByteArray) (hs : s.size < 4611686018427387904) : Meets Tryz.prog E0 A1w [.t (.v (.string s))] [] (.tp [B6l (F6 s.data.toList).1.1 (F6 s.data.toList).1.2.1 (F6 s.data.toList).1.2.2, I (F6 s.data.toList).2]) [] := by
 refine X6 B3y ?_
 simp only [go_sem, A77]
 refine G3 rfl (fun h1 => ?_) (fun h1 => ?_)
 ·simp at h1
  have hc : F6 s.data.toList = ((false, false, []), 12) := by unfold F6; rw [if_pos (by rw [A3k]; omega)]
  rw [hc]
  simp only [go_sem]
  refine wS [] ?_
  simp only [go_sem, K4, exists_eq_left', Option.some.injEq]
  simp [G1, G2, B1, AV.asOwn, B3, A9, AV.isNil, J8, B6, B4, B8]
 ·simp at h1
  have hall := Suf.all s
  have hc : F6 s.data.toList = (match A1s (s.size + 1) (K0 94 s.data.toList).2 [] with
   | none => ((false, false, []), 10)
   | some (e, is) => (((K0 94 s.data.toList).1, e, is), 0)) := by unfold F6; rw [A3k, if_neg (by omega)] <;> rfl
  have hsuf : Suf s (K0 94 s.data.toList).2 := (A30 94 _).trans hall
  rw [hc]
  have hcs : (s.data.toList = [] ∧ K0 94 s.data.toList = (false, [])) ∨ (∃ c r, s.data.toList = c :: r ∧ decide (c.toNat = 94) = false ∧ K0 94 s.data.toList = (false, c :: r)) ∨ (∃ c r, s.data.toList = c :: r ∧ decide (c.toNat = 94) = true ∧ K0 94 s.data.toList = (true, r)) := by
   cases s.data.toList with
   | nil => exact Or.inl ⟨rfl, rfl⟩
   | cons c r =>
    right
    by_cases e : c.toNat = 94
    ·exact Or.inr ⟨c, r, rfl, by simp [e], by simp [K0, e]⟩
    ·exact Or.inl ⟨c, r, rfl, by simp [e], by simp [K0, e]⟩
  have hlen0 := A3k s
  have hg0 := C12 s 0
  generalize hsk : K0 94 s.data.toList = sk at *
  generalize hout : A1s (s.size + 1) sk.2 [] = out
  rcases hcs with ⟨hl0, hk⟩ | ⟨c, r, hl0, hc94, hk⟩ | ⟨c, r, hl0, hc94, hk⟩
  case' inl =>
   rw [hl0] at hlen0
   simp only [List.length_nil] at hlen0
   have d0 : decide ((0 : Int) < (s.size : Int)) = false := decide_eq_false (by omega)
   have hst : (0 : Int) = ((s.size : Nat) : Int) := by omega
   simp only [go_sem, d0]
  case' inr.inl =>
   rw [hl0] at hlen0 hg0
   simp only [List.length_cons] at hlen0
   simp only [List.getElem?_cons_zero] at hg0
   have d0 : decide ((0 : Int) < (s.size : Int)) = true := decide_eq_true (by omega)
   have hst : (0 : Int) = ((s.size - (r.length + 1) : Nat) : Int) := by omega
   simp only [go_sem, d0, hg0, hc94]
  case' inr.inr =>
   rw [hl0] at hlen0 hg0
   simp only [List.length_cons] at hlen0
   simp only [List.getElem?_cons_zero] at hg0
   have d0 : decide ((0 : Int) < (s.size : Int)) = true := decide_eq_true (by omega)
   have hst : (1 : Int) = ((s.size - r.length : Nat) : Int) := by omega
   simp only [go_sem, d0, hg0, hc94]
  all_goals
   have h5 : ((s.size - sk.2.length : Nat) : Int) = ((s.size - sk.2.length : Nat) : Int) := rfl
   refine C8 (fun i : List UInt8 × List R6 => i.1.length) (fun i => Suf s i.1 ∧ i.2.length + i.1.length ≤ 64 ∧ ∃ f, i.1.length < f ∧ A1s f i.1 i.2 = out)
    (fun i => [(0, .t (.v (.string s))), (2, .ptr 100 0), (4, .ptr 102 0), (5, I ((s.size - i.1.length : Nat) : Int))])
    (fun i => [(100, .box [Bo false, Bo false, .t (.v (.slice none 0 0))]), (102, .box [Bo sk.1, Bo false, .own 999 5 0 i.2.length (!i.2.isEmpty)]), (999, .row 5 (!i.2.isEmpty) (i.2.map T9))])
    (sk.2, []) ⟨hsuf, by have := hsuf.len; simp; omega, s.size + 1, by have := hsuf.len; simp; omega, hout⟩ ?_ ?_
   ·subst hk
    dsimp only at *
    exact (B6b [(999, 888)] [])
   ·clear hk hl0 hlen0 hg0 hst
    rintro ⟨l, acc⟩ ⟨hl, hk, f, hf, hr⟩
    simp only at hl hk hf hr
    have hlen := hl.len
    obtain ⟨f, rfl⟩ : ∃ g, f = g + 1 := ⟨f - 1, by omega⟩
    cases l with
    | nil =>
     simp only [A1s] at hr
     subst hr
     have d0 : decide (s.size < s.size) = false := by simp
     simp only [go_sem, H6, d0, List.length_nil, Nat.sub_zero, A9i]
     cases hacc : acc with
     | nil =>
      refine wS [] ?_
      simp only [go_sem, K4, exists_eq_left', Option.some.injEq]
      simp [G1, G2, B1, AV.asOwn, B3, A9, AV.isNil, J8, B6, B4, B8]
     | cons a acc =>
      refine wS [999] ?_
      simp only [go_sem, K4, exists_eq_left', Option.some.injEq]
      simp [G1, G2, B1, AV.asOwn, B3, A9, AV.isNil, J8, B6, B4, B8, List.take_of_length_le]
    | cons c r =>
     have g0 := hl.get 0
     simp only [List.length_cons, Nat.add_zero, List.getElem?_cons_zero] at hlen hk hf g0
     have hcb := A7n c
     have d0 : decide (s.size - (r.length + 1) < s.size) = true := by simp; omega
     have w1 : IntKind.i64.wrap ((s.size : Int) - 1) = ((s.size - 1 : Nat) : Int) := by rw [A5 (by omega) (by omega)]; omega
     by_cases hd : r = [] ∧ c.toNat = 36
     ·obtain ⟨rfl, hc36⟩ := hd
      simp only [A1s, hc36, and_self, if_true] at hr
      subst hr
      simp only [List.length_nil, Nat.zero_add] at d0 g0 hlen
      have k36 := C07 hc36
      simp only [go_sem, H6, d0, List.length_cons, List.length_nil, Nat.zero_add, g0, k36, w1, decide_true]
      cases hacc : acc with
      | nil =>
       refine wS [] ?_
       simp only [go_sem, K4, exists_eq_left', Option.some.injEq]
       simp [G1, G2, B1, AV.asOwn, B3, A9, AV.isNil, J8, B6, B4, B8]
      | cons a acc =>
       refine wS [999] ?_
       simp only [go_sem, K4, exists_eq_left', Option.some.injEq]
       simp [G1, G2, B1, AV.asOwn, B3, A9, AV.isNil, J8, B6, B4, B8, List.take_of_length_le]
     ·simp only [A1s, if_neg hd] at hr
      by_cases hc36 : c.toNat = 36
      ·have hr0 : r ≠ [] := fun e => hd ⟨e, hc36⟩
       have hrl : r.length ≠ 0 := fun e => hr0 (List.eq_nil_of_length_eq_zero e)
       have dm : decide (s.size - (r.length + 1) = s.size - 1) = false := by simp; omega
       have k36 := C07 hc36
       simp only [R2, hc36, true_or, or_true, if_true, Bool.false_eq_true, if_false] at hr
       subst hr
       simp only [go_sem, H6, d0, List.length_cons, g0, k36, w1, dm]
       refine wS [] ?_
       simp only [go_sem, K4, exists_eq_left', Option.some.injEq]
       simp [G1, G2, B1, AV.asOwn, B3, A9, AV.isNil, J8, B6, B4, B8]
      have k36 := B4w hc36
      by_cases hc94 : c.toNat = 94
      ·have k94 := C07 hc94
       simp only [R2, hc94, true_or, or_true, if_true, Bool.false_eq_true, if_false] at hr
       subst hr
       simp only [go_sem, H6, d0, List.length_cons, g0, k36, k94]
       refine wS [] ?_
       simp only [go_sem, K4, exists_eq_left', Option.some.injEq]
       simp [G1, G2, B1, AV.asOwn, B3, A9, AV.isNil, J8, B6, B4, B8]
      have k94 := B4w hc94
      by_cases hc42 : c.toNat = 42
      ·have k42 := C07 hc42
       simp only [R2, hc42, true_or, or_true, if_true, Bool.false_eq_true, if_false] at hr
       subst hr
       simp only [go_sem, H6, d0, List.length_cons, g0, k36, k94, k42]
       refine wS [] ?_
       simp only [go_sem, K4, exists_eq_left', Option.some.injEq]
       simp [G1, G2, B1, AV.asOwn, B3, A9, AV.isNil, J8, B6, B4, B8]
      have k42 := B4w hc42
      by_cases hc93 : c.toNat = 93
      ·have k93 := C07 hc93
       simp only [R2, hc93, true_or, or_true, if_true, Bool.false_eq_true, if_false] at hr
       subst hr
       simp only [go_sem, H6, d0, List.length_cons, g0, k36, k94, k42, k93]
       refine wS [] ?_
       simp only [go_sem, K4, exists_eq_left', Option.some.injEq]
       simp [G1, G2, B1, AV.asOwn, B3, A9, AV.isNil, J8, B6, B4, B8]
      have k93 := B4w hc93
      have hb : ¬ (c.toNat = 94 ∨ c.toNat = 36 ∨ c.toNat = 42 ∨ c.toNat = 93) := by omega
      have ea : IntKind.i64.wrap (((s.size - (r.length + 1) : Nat) : Int) + 1) = ((s.size - r.length : Nat) : Int) := by rw [A5 (by omega) (by omega)]; omega
      have hacs : (R2 (c :: r) = (C8y, true, r) ∧ c.toNat = 46) ∨ (∃ d r1, r = d :: r1 ∧ R2 (c :: r) = (2 ^ d.toNat, true, r1) ∧ c.toNat = 92) ∨ (r = [] ∧ (R2 (c :: r)).2.1 = false ∧ c.toNat = 92) ∨ (c.toNat = 91 ∧ R2 (c :: r) = A15 r) ∨ (R2 (c :: r) = (2 ^ c.toNat, true, r) ∧ c.toNat ≠ 46 ∧ c.toNat ≠ 92 ∧ c.toNat ≠ 91) := by
       by_cases h46 : c.toNat = 46
       ·exact Or.inl ⟨by simp [R2, h46], h46⟩
       ·by_cases h91 : c.toNat = 91
        ·exact Or.inr (Or.inr (Or.inr (Or.inl ⟨h91, by simp [R2, h91]⟩)))
        ·by_cases h92 : c.toNat = 92
         ·cases r with
          | nil => exact Or.inr (Or.inr (Or.inl ⟨rfl, by simp [R2, h92], h92⟩))
          | cons d r1 => exact Or.inr (Or.inl ⟨d, r1, rfl, by simp [R2, h92], h92⟩)
         ·exact Or.inr (Or.inr (Or.inr (Or.inr ⟨by simp only [R2, if_neg hb, if_neg h46, if_neg h91, if_neg h92], h46, h92, h91⟩)))
      rcases hacs with ⟨hat, h46⟩ | ⟨d, r1, hrd, hat, h92⟩ | ⟨hrd, hat, h92⟩ | ⟨h91, hat⟩ | ⟨hat, h46, h92, h91⟩
      case' inr.inr.inl =>
       subst hrd
       rw [hat] at hr
       simp only [Bool.false_eq_true, if_false] at hr
       subst hr
       simp only [List.length_nil, Nat.zero_add] at d0 g0 hlen
       have k46 : decide (c.toNat = 46) = false := B4w (by omega)
       have k92 : decide (c.toNat = 92) = true := C07 h92
       simp only [go_sem, H6, d0, List.length_cons, List.length_nil, Nat.zero_add, g0, k36, k94, k42, k93, k46, k92, w1, decide_true]
       refine wS [] ?_
       simp only [go_sem, K4, exists_eq_left', Option.some.injEq]
       simp [G1, G2, B1, AV.asOwn, B3, A9, AV.isNil, J8, B6, B4, B8]
      case' inl =>
       have k46 : decide (c.toNat = 46) = true := C07 h46
       have hs1 : Suf s r := hl.tail
       have hle : r.length ≤ r.length := Nat.le_refl _
       rw [hat] at hr
       simp only [if_true] at hr
       simp only [go_sem, H6, d0, List.length_cons, g0, k36, k94, k42, k93, k46, ea]
       obtain ⟨n, hn, hw1, hw2, hw3, hw4⟩ := D3v
       have e2 : ∀ st, acc.map T9 ++ [[.v (.int .u64 ((18446744073709551615 : Nat) : Int)), .v (.int .u64 ((18446744073709551615 : Nat) : Int)), .v (.int .u64 ((18446744073709551615 : Nat) : Int)), .v (.int .u64 ((18446744073709551615 : Nat) : Int)), .v (.bool st)]] = (acc ++ [(n, st)]).map T9 := by
        intro st
        simp only [List.map_append, List.map_cons, List.map_nil, T9, hw1, hw2, hw3, hw4]
       rw [← hn] at hr
       clear hat ea hb hn
       obtain ⟨r1, rfl⟩ : ∃ r1, r1 = r := ⟨r, rfl⟩
       have hk1 : acc.length + r1.length + 1 ≤ 64 := by omega
       have hf1 : r1.length < f := by omega
       have hm1 : r1.length ≤ r1.length := Nat.le_refl _
      case' inr.inl =>
       subst hrd
       have k46 : decide (c.toNat = 46) = false := B4w (by omega)
       have k92 : decide (c.toNat = 92) = true := C07 h92
       have hs1 : Suf s r1 := hl.tail.tail
       have g1 := hl.get 1
       have hcb2 := A7n d
       simp only [List.length_cons, List.getElem?_cons_succ, List.getElem?_cons_zero] at g0 g1 d0 hlen hk hf ea
       have dm : decide (s.size - (r1.length + 1 + 1) = s.size - 1) = false := by simp; omega
       have ei : IntKind.i64.wrap (((s.size - (r1.length + 1 + 1) : Nat) : Int) + 1) = ((s.size - (r1.length + 1 + 1) + 1 : Nat) : Int) := by rw [A5 (by omega) (by omega)]; omega
       have ej : IntKind.i64.wrap (((s.size - (r1.length + 1 + 1) : Nat) : Int) + 2) = ((s.size - r1.length : Nat) : Int) := by rw [A5 (by omega) (by omega)]; omega
       rw [hat] at hr
       simp only [if_true] at hr
       simp only [go_sem, H6, d0, List.length_cons, g0, g1, k36, k94, k42, k93, k46, k92, w1, dm, ei, ej]
       refine A6 (C2x d.toNat hcb2) ?_
       simp only [go_sem, ej]
       clear hat
       generalize 2 ^ d.toNat = n at *
       have hk1 : acc.length + r1.length + 1 ≤ 64 := by omega
       have hf1 : r1.length < f := by omega
       have hm1 : r1.length ≤ (d :: r1).length := by simp
       have e2 : ∀ st, acc.map T9 ++ [[.v (.int .u64 ((n % 18446744073709551616 : Nat) : Int)), .v (.int .u64 ((n / 18446744073709551616 % 18446744073709551616 : Nat) : Int)), .v (.int .u64 ((n / 340282366920938463463374607431768211456 % 18446744073709551616 : Nat) : Int)), .v (.int .u64 ((n / (18446744073709551616 * 340282366920938463463374607431768211456) % 18446744073709551616 : Nat) : Int)), .v (.bool st)]] = (acc ++ [(n, st)]).map T9 := by intro st; simp [T9]
      case' inr.inr.inr.inl =>
       have k46 : decide (c.toNat = 46) = false := B4w (by omega)
       have k92 : decide (c.toNat = 92) = false := B4w (by omega)
       have k91 : decide (c.toNat = 91) = true := C07 h91
       simp only [go_sem, H6, d0, List.length_cons, g0, k36, k94, k42, k93, k46, k92, k91, ea]
       refine A6 (C76 s r hl.tail hs) ?_
       have hsu := B6d c r
       rw [hat] at hr hsu
       generalize A15 r = y at *
       obtain ⟨n, ok, r1⟩ := y
       simp only at hsu
       have hs1 : Suf s r1 := hsu.trans hl.tail
       have hle := hsu.length_le
       cases ok
       ·simp only [Bool.false_eq_true, if_false] at hr
        subst hr
        simp only [go_sem]
        refine wS [] ?_
        simp only [go_sem, K4, exists_eq_left', Option.some.injEq]
        simp [G1, G2, B1, AV.asOwn, B3, A9, AV.isNil, J8, B6, B4, B8]
       simp only [if_true] at hr
       simp only [go_sem]
       have e2 : ∀ st, acc.map T9 ++ [[.v (.int .u64 ((n % 18446744073709551616 : Nat) : Int)), .v (.int .u64 ((n / 18446744073709551616 % 18446744073709551616 : Nat) : Int)), .v (.int .u64 ((n / 340282366920938463463374607431768211456 % 18446744073709551616 : Nat) : Int)), .v (.int .u64 ((n / (18446744073709551616 * 340282366920938463463374607431768211456) % 18446744073709551616 : Nat) : Int)), .v (.bool st)]] = (acc ++ [(n, st)]).map T9 := by intro st; simp [T9]
       have hk1 : acc.length + r1.length + 1 ≤ 64 := by omega
       have hf1 : r1.length < f := by omega
       have hm1 : r1.length ≤ r.length := hle
      case' inr.inr.inr.inr =>
       have k46 : decide (c.toNat = 46) = false := B4w h46
       have k92 : decide (c.toNat = 92) = false := B4w h92
       have k91 : decide (c.toNat = 91) = false := B4w h91
       have hs1 : Suf s r := hl.tail
       have hle : r.length ≤ r.length := Nat.le_refl _
       rw [hat] at hr
       simp only [if_true] at hr
       simp only [go_sem, H6, d0, List.length_cons, g0, k36, k94, k42, k93, k46, k92, k91]
       refine A6 (C2x c.toNat hcb) ?_
       simp only [go_sem, ea]
       clear hat
       generalize 2 ^ c.toNat = n at *
       have e2 : ∀ st, acc.map T9 ++ [[.v (.int .u64 ((n % 18446744073709551616 : Nat) : Int)), .v (.int .u64 ((n / 18446744073709551616 % 18446744073709551616 : Nat) : Int)), .v (.int .u64 ((n / 340282366920938463463374607431768211456 % 18446744073709551616 : Nat) : Int)), .v (.int .u64 ((n / (18446744073709551616 * 340282366920938463463374607431768211456) % 18446744073709551616 : Nat) : Int)), .v (.bool st)]] = (acc ++ [(n, st)]).map T9 := by intro st; simp [T9]
       obtain ⟨r1, rfl⟩ : ∃ r1, r1 = r := ⟨r, rfl⟩
       have hk1 : acc.length + r1.length + 1 ≤ 64 := by omega
       have hf1 : r1.length < f := by omega
       have hm1 : r1.length ≤ r1.length := Nat.le_refl _
      all_goals
       have b1 : (acc.length + 1) * 40 ≤ 2 ^ 47 := by omega
       have b2 : acc.length + 1 < 2 ^ 47 := by omega
       have hl1 := hs1.len
       cases r1 with
       | nil =>
        have s0 : decide (s.size < s.size) = false := by simp
        simp only [go_sem, List.length_nil, Nat.sub_zero, s0, b1, b2, e2]
        refine C3 ([], acc ++ [(n, false)]) (by simp) ⟨hs1, by simp only [List.length_append, List.length_cons, List.length_nil] at *; omega, f, by simp only [List.length_nil] at *; omega, hr⟩ ?_
        exact (B6b [(999, 230)] [])
       | cons x r2 =>
        have gx := hs1.get 0
        simp only [List.length_cons, Nat.add_zero, List.getElem?_cons_zero] at gx hl1 hk1 hf1 hm1
        have s0 : decide (s.size - (r2.length + 1) < s.size) = true := decide_eq_true (by omega)
        cases hx : decide (x.toNat = 42)
        ·have qx := of_decide_eq_false hx
         have hk42 : K0 42 (x :: r2) = (false, x :: r2) := by simp only [K0, if_neg qx]
         rw [hk42] at hr
         simp only [go_sem, List.length_cons, s0, gx, hx, b1, b2, e2]
         refine C3 (x :: r2, acc ++ [(n, false)]) (by simp only [List.length_cons] at *; omega) ⟨hs1, by simp only [List.length_append, List.length_cons, List.length_nil]; omega, f, by simp only [List.length_cons]; omega, hr⟩ ?_
         exact (B6b [(999, 230)] [])
        ·have qx := of_decide_eq_true hx
         have hk42 : K0 42 (x :: r2) = (true, r2) := by simp only [K0, if_pos qx]
         have ez : IntKind.i64.wrap (((s.size - (r2.length + 1) : Nat) : Int) + 1) = ((s.size - r2.length : Nat) : Int) := by rw [A5 (by omega) (by omega)]; omega
         rw [hk42] at hr
         simp only [go_sem, List.length_cons, s0, gx, hx, ez, b1, b2, e2]
         refine C3 (r2, acc ++ [(n, true)]) (by simp only [List.length_cons] at *; omega) ⟨hs1.tail, by simp only [List.length_append, List.length_cons, List.length_nil]; omega, f, by simp only; omega, hr⟩ ?_
         exact (B6b [(999, 230)] [])

def lit (c : UInt8) : R6 := (2 ^ c.toNat, false)

theorem B4q (s : ByteArray) : Meets Tryz.prog E0 A39 [.t (.v (.string s))] [] (.tp [B6l (F6 s.data.toList).1.1 (F6 s.data.toList).1.2.1 (F6 s.data.toList).1.2.2, I (F6 s.data.toList).2]) [] := by
 by_cases h : s.size ≤ 64
 ·exact C1a s (by omega)
 ·refine X6 B2f ?_
  have hc : F6 s.data.toList = ((false, false, []), 12) := by unfold F6; rw [if_pos (by rw [A3k]; omega)]
  have d0 : decide ((64 : Int) < (s.size : Int)) = true := decide_eq_true (by omega)
  rw [hc]
  simp only [go_sem, A64, d0]
  refine wS [] ?_
  simp only [go_sem, Q2, exists_eq_left', Option.some.injEq]
  simp [G1, G2, B1, AV.asOwn, B3, A9, AV.isNil, J8, B6, B4, B8]

theorem A7r (s : ByteArray) : Meets Tryz.prog E0 A1w [.t (.v (.string s))] [] (.tp [B6l (F6 s.data.toList).1.1 (F6 s.data.toList).1.2.1 (F6 s.data.toList).1.2.2, I (F6 s.data.toList).2]) [] := by
 by_cases h : s.size ≤ 64
 ·exact C30 s (by omega)
 ·refine X6 B3y ?_
  have hc : F6 s.data.toList = ((false, false, []), 12) := by unfold F6; rw [if_pos (by rw [A3k]; omega)]
  have d0 : decide ((64 : Int) < (s.size : Int)) = true := decide_eq_true (by omega)
  rw [hc]
  simp only [go_sem, A77, d0]
  refine wS [] ?_
  simp only [go_sem, K4, exists_eq_left', Option.some.injEq]
  simp [G1, G2, B1, AV.asOwn, B3, A9, AV.isNil, J8, B6, B4, B8]

theorem B9f (p tx : ByteArray) (ht : tx.size < 70368744177664) : Meets Tryz.prog E0 B15 [.t (.v (.string p)), .t (.v (.string tx))] [] (.tp [Bo (if (F6 p.data.toList).2 = 0 then B2z (F6 p.data.toList).1.1 (F6 p.data.toList).1.2.1 (F6 p.data.toList).1.2.2 tx.data.toList else false), I (F6 p.data.toList).2]) [] := by
 refine X6 C77 ?_
 simp only [go_sem, B79]
 refine A6 (A7r p) ?_
 have hlen := C7x p.data.toList
 generalize F6 p.data.toList = x at *
 obtain ⟨⟨a, z, is⟩, e⟩ := x
 simp only at hlen
 simp only [go_sem]
 refine G3 rfl (fun h => ?_) (fun h => ?_)
 ·simp at h
  simp only [go_sem]
  refine wE ?_
  simp only [go_sem, B1b]
  simp [h]
 ·simp at h
  simp only [go_sem]
  refine A6 (C70 a z is (by omega) tx ht) ?_
  simp only [go_sem]
  refine wE ?_
  simp only [go_sem, B1b]
  simp [h, D5v]

def C11 (f : F4 → List UInt8) (l : List F4) : List F4 × Int := (if l.all (fun s => decide ((f s).length ≤ 400)) = true then l.map (B20 f) else [], if l.all (fun s => decide ((f s).length ≤ 400)) = true then 0 else 20)

/-- What a call answers. -/
def A8u (call : List UInt8) (l : List F4) (args ns : List Num) (tx : List UInt8) : List F4 × Int :=
 if (E9 call).1.1 = 2 then (A4c (A08 call l true) ns, 0)
 else if (E9 call).1.1 = 3 then (A4c (A08 call l false) ns, 0)
 else if (E9 call).1.1 = 4 then (l.filter (q1M call (args.headD (false, 0))), 0)
 else if (E9 call).1.1 = 5 then (l.filter (q2M call (args.headD (false, 0))), 0)
 else if (E9 call).1.1 = 6 then (if (F6 tx).2 = 0 then l.filter (q3M call (F6 tx).1.1 (F6 tx).1.2.1 (F6 tx).1.2.2) else [], (F6 tx).2)
 else if (E9 call).1.1 = 7 then (if (call == A01) = true then C11 (fun _ => tx) l else C11 (fun s => V8 s.1 ns) l)
 else if (call == X7) = true then (F7 A8x l, 0)
 else (A4c l ns, 0)

def D5x : Nat → Nat
 | 2 => 100
 | 3 => 101
 | n => n
def E19 : Nat → Nat
 | 2 => 151
 | 3 => 100
 | n => n
def E1y : Nat → Nat
 | 2 => 103
 | n => n
def E2l : Nat → Nat
 | 2 => 102
 | n => n

theorem B7t (call : List UInt8) (l : List F4) (down : Bool) : (A08 call l down).length = l.length := by
 unfold A08
 rw [List.length_map, O6, List.length_map]

theorem C3a (call : List UInt8) (l : List F4) (args ns : List Num) (tx : List UInt8) (hcl : call.length ≤ 1000000000) (hl : l.length ≤ 100000) (hv : ∀ s ∈ l, s.1.length ≤ 100000 ∧ s.2.2.2.length ≤ 100000 ∧ inS s)
  (hns : ns.length ≤ 100000) (hw : ns.all P0 = true) (h4 : (E9 call).1.1 = 4 ∨ (E9 call).1.1 = 5 → args ≠ []) (h7 : (E9 call).1.1 = 7 → (call == A01) = false → ns ≠ []) :
  Meets Tryz.prog E0 A7b [Q5 (D6 call), A0e l, M6 args, .t (.sl 1 (ns.map W6)), Q5 (D6 tx)] [] (.tp [A0e (A8u call l args ns tx).1, I (A8u call l args ns tx).2]) [] := by
 have hR := A58 call hcl
 have q1 : S2 .eql (D6 call) (bs [97, 108, 105, 97, 115]) = some (.bool (call == A01)) := eqT call A01
 have q2 : S2 .eql (D6 call) (bs [115, 111, 114, 116, 66, 121, 78, 97, 109, 101]) = some (.bool (call == X7)) := eqT call X7
 generalize hE : A8u call l args ns tx = C
 unfold A8u at hE
 generalize (E9 call).1.1 = k at *
 generalize (E9 call).1.2 = wy at *
 generalize (E9 call).2 = okb at *
 refine X6 C32 ?_
 simp only [go_sem, B4b]
 refine A6 hR ?_
 cases d2 : decide (k = 2)
 ·cases d3 : decide (k = 3)
  ·cases d4 : decide (k = 4)
   ·cases d5 : decide (k = 5)
    ·cases d6 : decide (k = 6)
     ·cases d7 : decide (k = 7)
      ·cases dn : (call == X7)
       ·have e : C = (A4c l ns, 0) := by rw [← hE, if_neg (of_decide_eq_false d2), if_neg (of_decide_eq_false d3), if_neg (of_decide_eq_false d4), if_neg (of_decide_eq_false d5), if_neg (of_decide_eq_false d6), if_neg (of_decide_eq_false d7), dn, if_neg Bool.false_ne_true]
        subst e
        simp only [go_sem, d2, d3, d4, d5, d6, d7, q2, dn]
        refine A6 (A9h l ns (by omega) (by omega) hw) ?_
        simp only [go_sem]
        refine wS [] ?_
        simp only [go_sem, N7, exists_eq_left', Option.some.injEq]
        simp [G1, G2, B1, AV.asOwn, B3, A9, AV.isNil, J8, B6, B4, B8]
       ·have e : C = (F7 A8x l, 0) := by rw [← hE, if_neg (of_decide_eq_false d2), if_neg (of_decide_eq_false d3), if_neg (of_decide_eq_false d4), if_neg (of_decide_eq_false d5), if_neg (of_decide_eq_false d6), if_neg (of_decide_eq_false d7), dn, if_pos rfl]
        subst e
        simp only [go_sem, d2, d3, d4, d5, d6, d7, q2, dn]
        refine A6 (C5g l (by omega)) ?_
        simp only [go_sem]
        refine wS [] ?_
        simp only [go_sem, N7, exists_eq_left', Option.some.injEq]
        simp [G1, G2, B1, AV.asOwn, B3, A9, AV.isNil, J8, B6, B4, B8]
      ·have h7' := h7 (of_decide_eq_true d7)
       cases da : (call == A01)
       ·have e : C = (C11 (fun s => V8 s.1 ns) l) := by rw [← hE, if_neg (of_decide_eq_false d2), if_neg (of_decide_eq_false d3), if_neg (of_decide_eq_false d4), if_neg (of_decide_eq_false d5), if_neg (of_decide_eq_false d6), if_pos (of_decide_eq_true d7), da, if_neg Bool.false_ne_true]
        have hd := (B1r A5c [T.sl 1 (ns.map W6)] (fun s => V8 s.1 ns) l hl (fun s hs => B8y ns s (hv s hs).1 hns hw (h7' da))).ren E2l (by simp [A4, E2l])
        simp only [A1y, A0z, A6i, A6v, B8f, E2l, B9x, List.map_cons, List.map_nil] at hd
        unfold C11 at e
        subst e
        simp only [go_sem, d2, d3, d4, d5, d6, d7, q1, da]
        refine oB (hd) ?_
        simp only [go_sem]
        refine wS [] ?_
        simp only [go_sem, N7, exists_eq_left', Option.some.injEq]
        simp [G1, G2, B1, AV.asOwn, B3, A9, AV.isNil, J8, B6, B4, B8]
       ·have e : C = (C11 (fun _ => tx) l) := by rw [← hE, if_neg (of_decide_eq_false d2), if_neg (of_decide_eq_false d3), if_neg (of_decide_eq_false d4), if_neg (of_decide_eq_false d5), if_neg (of_decide_eq_false d6), if_pos (of_decide_eq_true d7), da, if_pos rfl]
        have hd := (B1r A4v [T.v (.string (D6 tx))] (fun _ => tx) l hl (fun s hs => C00 tx s)).ren E1y (by simp [A4, E1y])
        simp only [A1y, A0z, A6i, A6v, B8f, E1y, B9x, List.map_cons, List.map_nil] at hd
        unfold C11 at e
        subst e
        simp only [go_sem, d2, d3, d4, d5, d6, d7, q1, da]
        refine oB (hd) ?_
        simp only [go_sem]
        refine wS [] ?_
        simp only [go_sem, N7, exists_eq_left', Option.some.injEq]
        simp [G1, G2, B1, AV.asOwn, B3, A9, AV.isNil, J8, B6, B4, B8]
     ·have hC := B4q (D6 tx)
      have hlen := C7x tx
      have e : C = (if (F6 tx).2 = 0 then l.filter (q3M call (F6 tx).1.1 (F6 tx).1.2.1 (F6 tx).1.2.2) else [], (F6 tx).2) := by rw [← hE, if_neg (of_decide_eq_false d2), if_neg (of_decide_eq_false d3), if_neg (of_decide_eq_false d4), if_neg (of_decide_eq_false d5), if_pos (of_decide_eq_true d6)]
      rw [X2] at hC
      subst e
      generalize F6 tx = y at *
      obtain ⟨⟨a, z, is⟩, er⟩ := y
      simp only at hC hlen ⊢
      simp only [go_sem, d2, d3, d4, d5, d6]
      refine A6 hC ?_
      simp only [go_sem]
      cases d0 : decide (er = 0)
      ·rw [if_neg (of_decide_eq_false d0)]
       simp only [go_sem, d0]
       refine wS [] ?_
       simp only [go_sem, N7, exists_eq_left', Option.some.injEq]
       simp [G1, G2, B1, AV.asOwn, B3, A9, AV.isNil, J8, B6, B4, B8]
      ·rw [if_pos (of_decide_eq_true d0)]
       have hd := (B1m A5a [T.v (.bool a), T.v (.bool z), T.sl 5 (is.map T9)] [T.v (.string (D6 call))] (q3M call a z is) l hl (fun s hs => B8p call a z is (by omega) s (hv s hs).1)).ren E19 (by simp [A4, E19])
       simp only [A1y, A0z, A6i, A6v, B8f, E19, List.map_cons, List.map_nil] at hd
       simp only [go_sem, d0]
       refine oB (hd) ?_
       simp only [go_sem]
       refine wS [] ?_
       simp only [go_sem, N7, exists_eq_left', Option.some.injEq]
       simp [G1, G2, B1, AV.asOwn, B3, A9, AV.isNil, J8, B6, B4, B8, of_decide_eq_true d0]
    ·have hne := h4 (Or.inr (of_decide_eq_true d5))
     cases args with
     | nil => exact absurd rfl hne
     | cons x ar =>
      have e : C = (l.filter (q2M call x), 0) := by rw [← hE, if_neg (of_decide_eq_false d2), if_neg (of_decide_eq_false d3), if_neg (of_decide_eq_false d4), if_pos (of_decide_eq_true d5), List.headD_cons]
      have hd := (B1m A4t [T.v (.string (D6 call))] [T.sl 2 ((x :: ar).map D7)] (q2M call x) l hl (fun s hs => C01 call hcl x ar s (hv s hs).2.1 (hv s hs).2.2)).ren D5x (by simp [A4, D5x])
      simp only [A1y, A0z, A6i, A6v, B8f, D5x, List.map_cons, List.map_nil] at hd
      subst e
      simp only [go_sem, d2, d3, d4, d5]
      refine oB (hd) ?_
      simp only [go_sem]
      refine wS [] ?_
      simp only [go_sem, N7, exists_eq_left', Option.some.injEq]
      simp [G1, G2, B1, AV.asOwn, B3, A9, AV.isNil, J8, B6, B4, B8]
   ·have hne := h4 (Or.inl (of_decide_eq_true d4))
    cases args with
    | nil => exact absurd rfl hne
    | cons x ar =>
     have e : C = (l.filter (q1M call x), 0) := by rw [← hE, if_neg (of_decide_eq_false d2), if_neg (of_decide_eq_false d3), if_pos (of_decide_eq_true d4), List.headD_cons]
     have hd := (B1m A4r [T.v (.string (D6 call))] [T.sl 2 ((x :: ar).map D7)] (q1M call x) l hl (fun s hs => B8s call hcl x ar s (hv s hs).2.1 (hv s hs).2.2)).ren D5x (by simp [A4, D5x])
     simp only [A1y, A0z, A6i, A6v, B8f, D5x, List.map_cons, List.map_nil] at hd
     subst e
     simp only [go_sem, d2, d3, d4]
     refine oB (hd) ?_
     simp only [go_sem]
     refine wS [] ?_
     simp only [go_sem, N7, exists_eq_left', Option.some.injEq]
     simp [G1, G2, B1, AV.asOwn, B3, A9, AV.isNil, J8, B6, B4, B8]
  ·have e : C = (A4c (A08 call l false) ns, 0) := by rw [← hE, if_neg (of_decide_eq_false d2), if_pos (of_decide_eq_true d3)]
   have hs := B43 call l false hcl (by omega) (fun s hs => (hv s hs).2)
   have hf := A9h (A08 call l false) ns (by rw [B7t]; omega) (by omega) hw
   subst e
   simp only [go_sem, d2, d3]
   refine A6 hs ?_
   simp only [go_sem]
   refine A6 hf ?_
   simp only [go_sem]
   ((try (with_reducible refine rF ?_)); (try simp only [go_sem]))
   refine wS [] ?_
   simp only [go_sem, N7, exists_eq_left', Option.some.injEq]
   simp [G1, G2, B1, AV.asOwn, B3, A9, AV.isNil, J8, B6, B4, B8]
 ·have e : C = (A4c (A08 call l true) ns, 0) := by rw [← hE, if_pos (of_decide_eq_true d2)]
  have hs := B43 call l true hcl (by omega) (fun s hs => (hv s hs).2)
  have hf := A9h (A08 call l true) ns (by rw [B7t]; omega) (by omega) hw
  subst e
  simp only [go_sem, d2]
  refine A6 hs ?_
  simp only [go_sem]
  refine A6 hf ?_
  simp only [go_sem]
  ((try (with_reducible refine rF ?_)); (try simp only [go_sem]))
  refine wS [] ?_
  simp only [go_sem, N7, exists_eq_left', Option.some.injEq]
  simp [G1, G2, B1, AV.asOwn, B3, A9, AV.isNil, J8, B6, B4, B8]

theorem C7w {α : Type} {l : List α} {i : Nat} {x : α} (h : l[i]? = some x) : l.set i x = l := by
 obtain ⟨hi, rfl⟩ := List.getElem?_eq_some_iff.1 h
 exact List.set_getElem_self hi

theorem D0v (l : List UInt8) (h : l ∉ A46.map (·.1)) : O2 l = ((0, 0), (false, false)) := by
 rw [← D0n]
 unfold C0u E9
 rw [B6g _ _ h]
 rfl

/-- Of calls that want a number one is there. -/
theorem C10 (call : List UInt8) : (O2 call).2.2 = true → (((E9 call).1.1 = 4 ∨ (E9 call).1.1 = 5) ∨ ((E9 call).1.1 = 7 ∧ (call == A01) = false)) → (O2 call).1.1 = 1 := by
 refine A9c (fun call => (O2 call).2.2 = true → (((E9 call).1.1 = 4 ∨ (E9 call).1.1 = 5) ∨ ((E9 call).1.1 = 7 ∧ (call == A01) = false)) → (O2 call).1.1 = 1) call (by decide +kernel) fun h => ?_
 rw [D0v _ h]
 intro e
 cases e

def A4n (call : List UInt8) (args : List Num) (tx : List UInt8) : Bool :=
 decide ((args.length : Int) < (O2 call).1.1) || (decide ((O2 call).1.2 < (args.length : Int)) || (args.any (fun n => !okN n.1 n.2) || (!(tx == []) && !(O2 call).2.1)))

def nsA (call : List UInt8) (args : List Num) : List Num := if (E9 call).1.1 = 4 ∨ (E9 call).1.1 = 5 then [] else args

/-- What a call of a list makes of it. -/
def A28 (call : List UInt8) (l : List F4) (args : List Num) (tx : List UInt8) : List F4 × Int :=
 if (O2 call).2.2 = false then ([], 15)
 else if l.any (fun s => !A29 s) = true then ([], 1)
 else if 128 < l.length then ([], 11)
 else if A4n call args tx = true then ([], 18)
 else if (nsA call args).all P0 = true then A8u call l args (nsA call args) tx else ([], 1)

theorem B6i {α : Type} (l : List α) (ns : List Num) : (A4c l ns).Sublist l := by
 cases ns with
 | nil => exact List.Sublist.refl _
 | cons n ns => exact List.take_sublist _ _

theorem D48 (call : List UInt8) (l : List F4) (down : Bool) (s : F4) : s ∈ A08 call l down ↔ s ∈ l := by
 unfold A08
 rw [List.mem_map]
 constructor
 ·rintro ⟨x, hx, rfl⟩
  obtain ⟨y, hy, rfl⟩ := List.mem_map.1 ((Y1 _ x _).1 hx)
  exact hy
 ·intro h
  exact ⟨B6t call s, (Y1 _ _ _).2 (List.mem_map.2 ⟨s, h, rfl⟩), rfl⟩

theorem D4p (f : F4 → List UInt8) (l : List F4) : (C11 f l).1.length ≤ l.length ∧ (∀ s ∈ (C11 f l).1, ∃ s' ∈ l, s.2 = s'.2) ∧ ((C11 f l).2 ≠ 0 → (C11 f l).1 = []) := by
 unfold C11
 split
 ·refine ⟨by simp, fun s hs => ?_, fun h => absurd rfl h⟩
  obtain ⟨s', h1, rfl⟩ := List.mem_map.1 hs
  exact ⟨s', h1, rfl⟩
 ·exact ⟨by simp, by simp, fun _ => rfl⟩

theorem C91 (call : List UInt8) (l : List F4) (args ns : List Num) (tx : List UInt8) : (A8u call l args ns tx).1.length ≤ l.length ∧ (∀ s ∈ (A8u call l args ns tx).1, ∃ s' ∈ l, s.2 = s'.2) ∧ ((A8u call l args ns tx).2 ≠ 0 → (A8u call l args ns tx).1 = []) := by
 have hsrt : ∀ d, (A4c (A08 call l d) ns).length ≤ l.length ∧ (∀ s ∈ A4c (A08 call l d) ns, ∃ s' ∈ l, s.2 = s'.2) := fun d =>
  ⟨Nat.le_trans (B6i _ _).length_le (by rw [B7t]; exact Nat.le_refl _), fun s hs => ⟨s, (D48 call l d s).1 ((B6i _ _).subset hs), rfl⟩⟩
 have hfil : ∀ p : F4 → Bool, (l.filter p).length ≤ l.length ∧ (∀ s ∈ l.filter p, ∃ s' ∈ l, s.2 = s'.2) := fun p =>
  ⟨List.length_filter_le _ _, fun s hs => ⟨s, (List.mem_filter.1 hs).1, rfl⟩⟩
 unfold A8u
 split
 ·exact ⟨(hsrt true).1, (hsrt true).2, fun h => absurd rfl h⟩
 ·split
  ·exact ⟨(hsrt false).1, (hsrt false).2, fun h => absurd rfl h⟩
  ·split
   ·exact ⟨(hfil _).1, (hfil _).2, fun h => absurd rfl h⟩
   ·split
    ·exact ⟨(hfil _).1, (hfil _).2, fun h => absurd rfl h⟩
    ·split
     ·by_cases h0 : (F6 tx).2 = 0
      ·rw [if_pos h0]
       exact ⟨(hfil _).1, (hfil _).2, fun h => absurd h0 h⟩
      ·rw [if_neg h0]
       exact ⟨by simp, by simp, fun _ => rfl⟩
     ·split
      ·split
       ·exact D4p _ l
       ·exact D4p _ l
      ·split
       ·refine ⟨by rw [O6]; exact Nat.le_refl _, fun s hs => ⟨s, (Y1 _ _ _).1 hs, rfl⟩, fun h => absurd rfl h⟩
       ·exact ⟨(B6i _ _).length_le, fun s hs => ⟨s, (B6i _ _).subset hs, rfl⟩, fun h => absurd rfl h⟩

/-- A name that is too long is refused. -/
def szR (nm : List UInt8) (k : Bool) : Int × (Bool × List UInt8) := if 400 < nm.length then (20, (false, [])) else (0, (k, nm))

/-- Among so many as are wanted. -/
def C2k (ns : List Num) (i : Nat) : Bool := match ns with
 | [] => true
 | n :: _ => decide ((i : Int) < n.2 / 1000000)

/-- What becomes of one series: an error, or whether it is kept, and its name. -/
def B6o (call : List UInt8) (args ns : List Num) (tx : List UInt8) (i : Nat) (s : F4) : Int × (Bool × List UInt8) :=
 if A2o call = 3 then szR s.1 (q1M call (args.headD (false, 0)) s)
 else if A2o call = 4 then szR s.1 (q2M call (args.headD (false, 0)) s)
 else if (call == A8q || call == B42) = true then (if (F6 tx).2 = 0 then szR s.1 (q3M call (F6 tx).1.1 (F6 tx).1.2.1 (F6 tx).1.2.2 s) else ((F6 tx).2, (false, [])))
 else if (call == A01) = true then szR tx true
 else if (call == A4k) = true then szR (V8 s.1 ns) true
 else szR s.1 (C2k ns i)

def A4a (f : Nat → F4 → Int × (Bool × List UInt8)) : Nat → List F4 → List F4 → List F4 × Int
 | _, [], acc => (acc, 0)
 | i, s :: l, acc => if (f i s).1 = 0 then A4a f (i + 1) l (if (f i s).2.1 = true then acc ++ [((f i s).2.2, s.2)] else acc) else ([], (f i s).1)

/-- The numbers that must be whole. -/
def nsR (call : List UInt8) (args : List Num) : List Num := if A2o call < 3 then args else []

def A1u (call : List UInt8) (l : List F4) : List F4 := if A2o call = 1 ∨ A2o call = 2 ∨ (call == X7) = true then F7 (A1h call) l else l

def B3s (call tx : List UInt8) (r : List F4 × Int) : List F4 × Int := if r.2 = 0 ∧ (call == A8q || call == B42) = true then (r.1, (F6 tx).2) else r

def D5s (call : List UInt8) (l : List F4) (args : List Num) (tx : List UInt8) : List F4 × Int :=
 if (O2 call).2.2 = false then ([], 15)
 else if l.any (fun s => !A29 s) = true then ([], 1)
 else if 128 < l.length then ([], 11)
 else if A4n call args tx = true then ([], 18)
 else if (nsR call args).all P0 = true then B3s call tx (A4a (B6o call args (nsR call args) tx) 0 (A1u call l) []) else ([], 1)

theorem D9f (call : List UInt8) (args : List Num) : nsR call args = nsA call args := by
 unfold nsR nsA
 rw [C9n]
 unfold B80
 generalize (E9 call).1.1 = k
 by_cases h4 : k = 4
 ·subst h4; rfl
 ·by_cases h5 : k = 5
  ·subst h5; rfl
  ·rw [if_neg (show ¬ (k = 4 ∨ k = 5) by omega), if_pos]
   split
   ·decide
   ·split
    ·decide
    ·first | decide | (rw [if_neg h4, if_neg h5]; decide)

theorem C5m {l : List F4} (h : ¬ l.any (fun s => !A29 s) = true) : ∀ s ∈ l, s.1.length ≤ 400 := by
 intro s hs
 have : ¬ (!A29 s) = true := fun e => h (List.any_eq_true.2 ⟨s, hs, e⟩)
 have hr : A29 s = true := by simpa using this
 unfold A29 at hr
 simp only [Bool.and_eq_true, decide_eq_true_eq] at hr
 exact hr.1

theorem A90 {nm : List UInt8} {k : Bool} (h : nm.length ≤ 400) : szR nm k = (0, (k, nm)) := by unfold szR; rw [if_neg (by omega)]

/-- Those that are kept, where no name changes. -/
theorem B5u (f : Nat → F4 → Int × (Bool × List UInt8)) (p : F4 → Bool) : ∀ (l : List F4) (i : Nat) (acc : List F4), (∀ s ∈ l, ∀ i, f i s = (0, (p s, s.1))) → A4a f i l acc = (acc ++ l.filter p, 0)
 | [], _, acc, _ => by simp [A4a]
 | s :: l, i, acc, h => by
  have hs := h s (by simp) i
  rw [A4a, hs]
  simp only [if_true]
  rw [B5u f p l (i + 1) _ (fun x hx => h x (by simp [hx]))]
  cases hp : p s
  ·simp [hp]
  ·simp [hp]

theorem D11 (f : Nat → F4 → Int × (Bool × List UInt8)) (n : Nat) : ∀ (l : List F4) (i : Nat) (acc : List F4), (∀ s ∈ l, ∀ i, f i s = (0, (decide (i < n), s.1))) → A4a f i l acc = (acc ++ l.take (n - i), 0)
 | [], _, acc, _ => by simp [A4a]
 | s :: l, i, acc, h => by
  have hs := h s (by simp) i
  rw [A4a, hs]
  simp only [if_true]
  rw [D11 f n l (i + 1) _ (fun x hx => h x (by simp [hx]))]
  by_cases hp : i < n
  ·rw [if_pos (decide_eq_true hp), show n - i = (n - (i + 1)) + 1 by omega, List.take_succ_cons, List.append_assoc]; rfl
  ·rw [if_neg (by rw [decide_eq_false hp]; decide), show n - i = 0 by omega, show n - (i + 1) = 0 by omega]; simp

theorem C9u (f : Nat → F4 → Int × (Bool × List UInt8)) (g : F4 → List UInt8) : ∀ (l : List F4) (i : Nat) (acc : List F4), (∀ s ∈ l, ∀ i, f i s = szR (g s) true) →
  A4a f i l acc = if l.all (fun s => decide ((g s).length ≤ 400)) = true then (acc ++ l.map (B20 g), 0) else ([], 20)
 | [], _, acc, _ => by simp [A4a]
 | s :: l, i, acc, h => by
  have hs := h s (by simp) i
  rw [A4a, hs]
  by_cases h4 : 400 < (g s).length
  ·rw [show szR (g s) true = (20, (false, [])) from by unfold szR; rw [if_pos h4]]
   rw [if_neg (by decide), if_neg]
   rw [List.all_cons, decide_eq_false (by omega)]
   simp
  ·rw [A90 (by omega)]
   simp only [if_true]
   rw [C9u f g l (i + 1) _ (fun x hx => h x (by simp [hx]))]
   rw [List.all_cons, decide_eq_true (by omega : (g s).length ≤ 400), Bool.true_and]
   split
   ·simp [B20]
   ·rfl

theorem D9e (f : Nat → F4 → Int × (Bool × List UInt8)) (e : Int) (he : e ≠ 0) (l : List F4) (hl : l ≠ []) (acc : List F4) (i : Nat) (h : ∀ s ∈ l, ∀ i, f i s = (e, (false, []))) : A4a f i l acc = ([], e) := by
 cases l with
 | nil => exact absurd rfl hl
 | cons s l => rw [A4a, h s (by simp) i, if_neg he]

/-- The words of a kind. -/
theorem D32 (call : List UInt8) : (O2 call).2.2 = true →
  ((E9 call).1.1 = 6 → ((call == A8q || call == B42) = true)) ∧ ((E9 call).1.1 ≠ 6 → ((call == A8q || call == B42) = false)) ∧
  ((E9 call).1.1 = 7 → (call == A01 || call == A4k) = true) ∧ ((E9 call).1.1 ≠ 7 → (call == A01 || call == A4k) = false) ∧
  ((E9 call).1.1 ≠ 1 → (call == X7) = false) ∧ ((call == A01) = true → (call == A4k) = false) ∧ ((call == X7) = true → (O2 call).1.2 = 0) ∧ (1 ≤ (E9 call).1.1 ∧ (E9 call).1.1 ≤ 7) := by
 refine A9c (fun call => (O2 call).2.2 = true →
  ((E9 call).1.1 = 6 → ((call == A8q || call == B42) = true)) ∧ ((E9 call).1.1 ≠ 6 → ((call == A8q || call == B42) = false)) ∧
  ((E9 call).1.1 = 7 → (call == A01 || call == A4k) = true) ∧ ((E9 call).1.1 ≠ 7 → (call == A01 || call == A4k) = false) ∧
  ((E9 call).1.1 ≠ 1 → (call == X7) = false) ∧ ((call == A01) = true → (call == A4k) = false) ∧ ((call == X7) = true → (O2 call).1.2 = 0) ∧ (1 ≤ (E9 call).1.1 ∧ (E9 call).1.1 ≤ 7)) call (by decide +kernel) fun h => ?_
 rw [D0v _ h]
 intro e
 cases e

theorem C5s {call : List UInt8} {args : List Num} {tx : List UInt8} (h : ¬ A4n call args tx = true) : (O2 call).1.1 ≤ args.length ∧ (args.length : Int) ≤ (O2 call).1.2 := by
 unfold A4n at h
 simp only [Bool.or_eq_true, not_or, decide_eq_true_eq] at h
 exact ⟨by omega, by omega⟩

theorem C51 {l : List F4} {ns : List Num} {f : Nat → F4 → Int × (Bool × List UInt8)} (hw : ns.all P0 = true) (hf : ∀ s ∈ l, ∀ i, f i s = (0, ((C2k ns i), s.1))) : A4a f 0 l [] = (A4c l ns, 0) := by
 cases ns with
 | nil =>
  rw [B5u f (fun _ => true) l 0 [] (fun s hs i => hf s hs i)]
  simp [A4c]
 | cons n ns =>
  have hv := List.all_eq_true.1 hw n (by simp)
  unfold P0 at hv
  simp only [Bool.and_eq_true, decide_eq_true_eq] at hv
  have h0 : 0 ≤ n.2 / 1000000 := Int.ediv_nonneg hv.1 (by omega)
  rw [D11 f (n.2 / 1000000).toNat l 0 [] (fun s hs i => by rw [hf s hs i]; unfold C2k; simp only; rw [decide_eq_decide.2 (show (i : Int) < n.2 / 1000000 ↔ i < (n.2 / 1000000).toNat by omega)])]
  simp [A4c]

theorem B83 {α : Type} {f g : α → α → Bool} (h : f = g) (l : List α) : F7 f l = F7 g l := by rw [h]

/-- The program's way and the document's are one. -/
theorem D5n (call : List UInt8) (l : List F4) (args : List Num) (tx : List UInt8) : D5s call l args tx = A28 call l args tx := by
 unfold D5s A28
 rw [D9f]
 by_cases ht : (O2 call).2.2 = false
 ·rw [if_pos ht, if_pos ht]
 rw [if_neg ht, if_neg ht]
 have ht' : (O2 call).2.2 = true := by simpa using ht
 by_cases hr : l.any (fun s => !A29 s) = true
 ·rw [if_pos hr, if_pos hr]
 rw [if_neg hr, if_neg hr]
 by_cases hm : 128 < l.length
 ·rw [if_pos hm, if_pos hm]
 rw [if_neg hm, if_neg hm]
 by_cases hb : A4n call args tx = true
 ·rw [if_pos hb, if_pos hb]
 rw [if_neg hb, if_neg hb]
 cases hw : (nsA call args).all P0
 ·rw [if_neg (by decide), if_neg (by decide)]
 rw [if_pos rfl, if_pos rfl]
 have hnm := C5m hr
 have hk := D32 call ht'
 have hba := C5s hb
 have hkd := C9n call
 have hone := C10 call ht'
 obtain ⟨g1, g2, g3, g4, g5, g6, g7, g8⟩ := hk
 have hns : nsA call args = if (E9 call).1.1 = 4 ∨ (E9 call).1.1 = 5 then [] else args := rfl
 generalize nsA call args = ns at *
 have hmeml : ∀ s ∈ A1u call l, s.1.length ≤ 400 := by
  intro s hs
  unfold A1u at hs
  split at hs
  ·exact hnm s ((Y1 _ _ _).1 hs)
  ·exact hnm s hs
 unfold A8u
 by_cases k2 : (E9 call).1.1 = 2
 ·have hk1 : A2o call = 1 := by rw [hkd, k2]; rfl
  have c1 := g2 (by omega)
  have c2 := g4 (by omega)
  have c3 := g5 (by omega)
  simp only [Bool.or_eq_false_iff] at c2
  rw [if_pos k2]
  have hl : A1u call l = A08 call l true := by
   unfold A1u
   rw [if_pos (Or.inl hk1), C2w]
   refine B83 ?_ l
   funext x y
   unfold A1h
   rw [if_neg (by rw [c3]; decide), hk1]
   rfl
  rw [hl] at hmeml ⊢
  rw [C51 hw (fun s hs i => by unfold B6o; rw [hk1, if_neg (by decide), if_neg (by decide), c1, if_neg (by decide), c2.1, if_neg (by decide), c2.2, if_neg (by decide), A90 (hmeml s hs)])]
  unfold B3s
  rw [if_neg (by rw [c1]; simp)]
 rw [if_neg k2]
 by_cases k3 : (E9 call).1.1 = 3
 ·have hk1 : A2o call = 2 := by rw [hkd, k3]; rfl
  have c1 := g2 (by omega)
  have c2 := g4 (by omega)
  have c3 := g5 (by omega)
  simp only [Bool.or_eq_false_iff] at c2
  rw [if_pos k3]
  have hl : A1u call l = A08 call l false := by
   unfold A1u
   rw [if_pos (Or.inr (Or.inl hk1)), C2w]
   refine B83 ?_ l
   funext x y
   unfold A1h
   rw [if_neg (by rw [c3]; decide), hk1]
   rfl
  rw [hl] at hmeml ⊢
  rw [C51 hw (fun s hs i => by unfold B6o; rw [hk1, if_neg (by decide), if_neg (by decide), c1, if_neg (by decide), c2.1, if_neg (by decide), c2.2, if_neg (by decide), A90 (hmeml s hs)])]
  unfold B3s
  rw [if_neg (by rw [c1]; simp)]
 rw [if_neg k3]
 by_cases k4 : (E9 call).1.1 = 4
 ·have hk1 : A2o call = 3 := by rw [hkd, k4]; rfl
  have c1 := g2 (by omega)
  have c3 := g5 (by omega)
  rw [if_pos k4]
  have hl : A1u call l = l := by
   unfold A1u
   rw [if_neg (by rw [hk1, c3]; simp)]
  rw [hl] at hmeml ⊢
  rw [B5u _ (q1M call (args.headD (false, 0))) l 0 [] (fun s hs i => by unfold B6o; rw [if_pos hk1, A90 (hmeml s hs)])]
  unfold B3s
  rw [if_neg (by rw [c1]; simp)]
  simp
 rw [if_neg k4]
 by_cases k5 : (E9 call).1.1 = 5
 ·have hk1 : A2o call = 4 := by rw [hkd, k5]; rfl
  have c1 := g2 (by omega)
  have c3 := g5 (by omega)
  rw [if_pos k5]
  have hl : A1u call l = l := by
   unfold A1u
   rw [if_neg (by rw [hk1, c3]; simp)]
  rw [hl] at hmeml ⊢
  rw [B5u _ (q2M call (args.headD (false, 0))) l 0 [] (fun s hs i => by unfold B6o; rw [if_neg (by rw [hk1]; decide), if_pos hk1, A90 (hmeml s hs)])]
  unfold B3s
  rw [if_neg (by rw [c1]; simp)]
  simp
 rw [if_neg k5]
 have hk0 : A2o call = 0 := by
  rw [hkd]; unfold B80; rw [if_neg k2, if_neg k3, if_neg k4, if_neg k5]
 by_cases k6 : (E9 call).1.1 = 6
 ·have c1 := g1 k6
  have c3 := g5 (by omega)
  rw [if_pos k6]
  have hl : A1u call l = l := by
   unfold A1u
   rw [if_neg (by rw [hk0, c3]; simp)]
  rw [hl] at hmeml ⊢
  by_cases h0 : (F6 tx).2 = 0
  ·rw [if_pos h0]
   rw [B5u _ (q3M call (F6 tx).1.1 (F6 tx).1.2.1 (F6 tx).1.2.2) l 0 [] (fun s hs i => by unfold B6o; rw [hk0, if_neg (by decide), if_neg (by decide), if_pos c1, if_pos h0, A90 (hmeml s hs)])]
   unfold B3s
   rw [if_pos ⟨rfl, c1⟩]
   simp
  ·rw [if_neg h0]
   by_cases hl0 : l = []
   ·subst hl0
    unfold B3s
    rw [A4a, if_pos ⟨rfl, c1⟩]
   ·rw [D9e _ (F6 tx).2 h0 l hl0 [] 0 (fun s hs i => by unfold B6o; rw [hk0, if_neg (by decide), if_neg (by decide), if_pos c1, if_neg h0])]
    unfold B3s
    rw [if_neg (fun h => h0 h.1)]
 rw [if_neg k6]
 have c1 := g2 k6
 by_cases k7 : (E9 call).1.1 = 7
 ·have c3 := g5 (by omega)
  have c2 := g3 k7
  rw [if_pos k7]
  have hl : A1u call l = l := by
   unfold A1u
   rw [if_neg (by rw [hk0, c3]; simp)]
  rw [hl]
  have hend : ∀ g : F4 → List UInt8, B3s call tx (if l.all (fun s => decide ((g s).length ≤ 400)) = true then ([] ++ l.map (B20 g), 0) else ([], 20)) = C11 g l := by
   intro g
   unfold B3s C11
   rw [if_neg (by rw [c1]; simp)]
   split <;> simp
  by_cases ha : (call == A01) = true
  ·rw [if_pos ha, C9u _ (fun _ => tx) l 0 [] (fun s hs i => by unfold B6o; rw [hk0, if_neg (by decide), if_neg (by decide), c1, if_neg (by decide), if_pos ha])]
   exact hend _
  ·have hn : (call == A4k) = true := by
    rw [Bool.or_eq_true] at c2
    exact c2.resolve_left ha
   rw [if_neg ha, C9u _ (fun s => V8 s.1 ns) l 0 [] (fun s hs i => by unfold B6o; rw [hk0, if_neg (by decide), if_neg (by decide), c1, if_neg (by decide), if_neg ha, if_pos hn])]
   exact hend _
 rw [if_neg k7]
 have c2 := g4 k7
 simp only [Bool.or_eq_false_iff] at c2
 have hsz : ∀ s ∈ A1u call l, ∀ i, B6o call args ns tx i s = (0, ((C2k ns i), s.1)) := by
  intro s hs i
  unfold B6o
  rw [hk0, if_neg (by decide), if_neg (by decide), c1, if_neg (by decide), c2.1, if_neg (by decide), c2.2, if_neg (by decide), A90 (hmeml s hs)]
 rw [C51 hw hsz]
 unfold B3s
 rw [if_neg (by rw [c1]; simp)]
 by_cases hn : (call == X7) = true
 ·have h0 := g7 hn
  have ha0 : args = [] := List.eq_nil_of_length_eq_zero (by omega)
  have hns0 : ns = [] := by rw [hns, ha0]; split <;> rfl
  subst hns0
  have hl : A1u call l = F7 A8x l := by
   unfold A1u
   rw [if_pos (Or.inr (Or.inr hn))]
   refine B83 ?_ l
   funext x y
   unfold A1h
   rw [if_pos hn]
  rw [if_pos hn, hl]
  rfl
 ·have hl : A1u call l = l := by
   unfold A1u
   rw [if_neg (by rw [hk0]; simp; simpa using hn)]
  rw [if_neg hn, hl]

/-- A name's pieces, one more. -/
theorem D53 (xs : List (List UInt8)) (y : List UInt8) : Lib.join (xs ++ [y]) [46] = if xs = [] then y else Lib.join xs [46] ++ ([46] ++ y) := by
 cases xs with
 | nil => rw [if_pos rfl, List.nil_append, Lib.join_one]
 | cons x r =>
  rw [if_neg (by simp), List.cons_append, Lib.join_cons, Lib.join_cons]
  unfold Lib.joinTail
  simp

theorem D0p (s : List UInt8) (a : List Num) (n : Num) : V8 s (a ++ [n]) = if a = [] then Z3 s (A8g n) else V8 s a ++ ([46] ++ Z3 s (A8g n)) := by
 unfold V8
 rw [List.map_append, List.map_cons, List.map_nil, D53]
 by_cases h : a = []
 ·subst h; rfl
 ·rw [if_neg (by simpa using h), if_neg h]

theorem D2o (s : List UInt8) (a : List Num) (h : s.length ≤ 100000) : (V8 s a).length ≤ a.length * 100001 := by
 have := D4v (a.map fun n => Z3 s (A8g n)) 100000 (fun x hx => by
  obtain ⟨n, _, rfl⟩ := List.mem_map.1 hx
  have := C1f s (A8g n)
  omega)
 rw [List.length_map] at this
 exact this

theorem C1x (s : F4) (hl : s.2.2.2.length ≤ 100000) (h : inS s) : Meets Tryz.prog E0 A38 [(.ag [Q5 (D6 (s).1), I (s).2.1, I (s).2.2.1, M6 (s).2.2.2])] [] (Bo (!A29 s)) [] := by
 refine X6 C14 ?_
 simp only [go_sem, B2h]
 refine A6 (C4b s (by omega) h) ?_
 simp only [go_sem]
 refine wE ?_
 simp only [go_sem, B2j]

theorem D41 (e : List T) (es : List (List T)) (hl : es.length ≤ 1000000) : Meets Tryz.prog E0 E7 [.t (.sl 2 (e :: es))] [] (.t (.sl 2 (e :: es))) [] := by
 have h1 : (es.length + 1) * 16 ≤ 2 ^ 47 := by omega
 have h2 : es.length + 1 < 2 ^ 47 := by omega
 refine X6 U1 ?_
 simp only [go_sem, M0, h1, h2]
 refine wS [106] ?_
 simp only [go_sem, L8, exists_eq_left', Option.some.injEq]
 simp [G1, G2, B1, AV.asOwn, B3, A9, AV.isNil, J8, B6, B4, B8, List.take_of_length_le]

theorem C5n (l : List Num) (hl : l.length ≤ 1000000) : Meets Tryz.prog E0 E7 [M6 l] [] (M6 l) [] := by
 cases l with
 | nil => exact B8t
 | cons a l => exact D41 (D7 a) (l.map D7) (by simp at hl ⊢; omega)

/-- Several ways into one state. -/
theorem D1b {A P G : Prop} (hh : (A → P) → G) (key : A → P) : G := hh key

theorem B9t (l : List F4) (hne : l ≠ []) (hl : l.length ≤ 100000) : Meets Tryz.prog E0 C7 [.t (.sl 4 (l.map U4))] [] (.own 700 4 0 l.length true) [(700, .row 4 true (l.map U4))] := by
 cases l with
 | nil => exact absurd rfl hne
 | cons a l =>
  have hc := A7w 700 (U4 a) (l.map U4) (by simp at hl ⊢; omega)
  rw [List.length_map] at hc
  exact hc

theorem A9b (call : List UInt8) (l : List F4) (args : List Num) (tx : List UInt8) (hcl : call.length ≤ 1000000000) (hl : l.length ≤ 100000) (ha : args.length ≤ 100000) (hv : ∀ s ∈ l, s.1.length ≤ 100000 ∧ s.2.2.2.length ≤ 100000 ∧ inS s) (hn : ∀ n ∈ args, inN n) :
  Meets Tryz.prog E0 A2n [Q5 (D6 call), A0e l, M6 args, Q5 (D6 tx)] [] (.tp [A0e (A28 call l args tx).1, I (A28 call l args tx).2]) [] := by
 have hT := B5k call hcl
 have hR := A58 call hcl
 have hz : (l.map U4).length = l.length := by simp
 have hza : (args.map D7).length = args.length := by simp
 have hCS := D7v A38 (fun s => !A29 s) l (by omega) (fun s hs => C1x s (hv s hs).2.1 (hv s hs).2.2)
 have hCN := D2e A33 (fun n => !okN n.1 n.2) args (by omega) (fun n h => C1u n (hn n h).1)
 have hW := C34 args (by omega) hn
 have q : S2 .neq (D6 tx) (bs []) = some (.bool (!(tx == []))) := neT tx []
 have hone := C10 call
 have hcore := fun ns => C91 call l args ns tx
 have hC := fun ns h1 h2 h4 h7 => C3a call l args ns tx hcl hl hv h1 h2 h4 h7
 generalize hE : A28 call l args tx = C
 unfold A28 A4n nsA at hE
 generalize hk : (E9 call).1.1 = k at *
 generalize (E9 call).1.2 = wy at *
 generalize (E9 call).2 = okb at *
 generalize hTk : O2 call = t at *
 obtain ⟨⟨least, most⟩, texts, ok⟩ := t
 simp only at hE hT hone
 refine X6 C4t ?_
 simp only [go_sem, B4r]
 refine A6 hT ?_
 cases ok
 ·rw [if_pos rfl] at hE
  subst hE
  simp only [go_sem]
  refine wS [] ?_
  simp only [go_sem, J2, exists_eq_left', Option.some.injEq]
  simp [G1, G2, B1, AV.asOwn, B3, A9, AV.isNil, J8, B6, B4, B8]
 rw [if_neg (by decide)] at hE
 simp only [go_sem]
 refine A6 hCS ?_
 cases hr : l.any (fun s => !A29 s)
 rotate_left
 ·rw [if_pos hr] at hE
  subst hE
  simp only [go_sem]
  refine wS [] ?_
  simp only [go_sem, J2, exists_eq_left', Option.some.injEq]
  simp [G1, G2, B1, AV.asOwn, B3, A9, AV.isNil, J8, B6, B4, B8]
 rw [if_neg (by rw [hr]; decide)] at hE
 by_cases hm : 128 < l.length
 ·have d1 : decide ((128 : Int) < (l.length : Int)) = true := decide_eq_true (by omega)
  rw [if_pos hm] at hE
  subst hE
  simp only [go_sem, hz, d1]
  refine wS [] ?_
  simp only [go_sem, J2, exists_eq_left', Option.some.injEq]
  simp [G1, G2, B1, AV.asOwn, B3, A9, AV.isNil, J8, B6, B4, B8]
 rw [if_neg hm] at hE
 have d1 : decide ((128 : Int) < (l.length : Int)) = false := decide_eq_false (by omega)
 have bad : A4n call args tx = true → C = ([], 18) := fun h => by unfold A4n at h; rw [hTk] at h; rw [if_pos h] at hE; exact hE.symm
 have good : A4n call args tx = false → C = if (nsA call args).all P0 = true then A8u call l args (nsA call args) tx else ([], 1) := fun h => by
  unfold A4n at h; rw [hTk] at h; rw [if_neg (by rw [h]; decide)] at hE; unfold nsA; rw [hk]; exact hE.symm
 have hba := C5s (call := call) (args := args) (tx := tx)
 have hbd : A4n call args tx = (decide ((args.length : Int) < least) || (decide (most < (args.length : Int)) || (args.any (fun n => !okN n.1 n.2) || (!(tx == []) && !texts)))) := by unfold A4n; rw [hTk]
 rw [hTk] at hba
 clear hE
 simp only [go_sem, hz, hza, d1]
 apply D1b (A := A4n call args tx = false)
 ·intro key
  cases d2 : decide ((args.length : Int) < least)
  ·cases d3 : decide (most < (args.length : Int))
   ·cases hu : args.any (fun n => !okN n.1 n.2)
    ·rw [hu] at hCN
     cases d4 : (tx == [])
     ·rcases Bool.eq_false_or_eq_true (!texts) with hx | hx
      ·have hb : A4n call args tx = true := by rw [hbd, d2, d3, hu, d4, hx]; rfl
       rw [bad hb]
       simp only [go_sem, hza, d2, d3]
       refine A6 hCN ?_
       simp only [go_sem, q, d4, hx, Bool.not_false]
       ((try (with_reducible refine rF ?_)); (try simp only [go_sem, q, d4, hx, Bool.not_false]))
       refine wS [] ?_
       simp only [go_sem, J2, exists_eq_left', Option.some.injEq]
       simp [G1, G2, B1, AV.asOwn, B3, A9, AV.isNil, J8, B6, B4, B8]
      ·have hb : A4n call args tx = false := by rw [hbd, d2, d3, hu, d4, hx]; rfl
       simp only [go_sem, hza, d2, d3]
       refine A6 hCN ?_
       simp only [go_sem, q, d4, hx, Bool.not_false]
       exact key hb
     ·have hb : A4n call args tx = false := by rw [hbd, d2, d3, hu, d4]; rfl
      simp only [go_sem, hza, d2, d3]
      refine A6 hCN ?_
      simp only [go_sem, q, d4, Bool.not_true]
      exact key hb
    ·rw [hu] at hCN
     have hb : A4n call args tx = true := by rw [hbd, d2, d3, hu]; rfl
     rw [bad hb]
     simp only [go_sem, hza, d2, d3]
     refine A6 hCN ?_
     simp only [go_sem, q]
     ((try (with_reducible refine rF ?_)); (try simp only [go_sem, q]))
     refine wS [] ?_
     simp only [go_sem, J2, exists_eq_left', Option.some.injEq]
     simp [G1, G2, B1, AV.asOwn, B3, A9, AV.isNil, J8, B6, B4, B8]
   ·have hb : A4n call args tx = true := by rw [hbd, d2, d3]; rfl
    rw [bad hb]
    simp only [go_sem, hza, d2, d3]
    ((try (with_reducible refine rF ?_)); (try simp only [go_sem, hza, d2, d3]))
    refine wS [] ?_
    simp only [go_sem, J2, exists_eq_left', Option.some.injEq]
    simp [G1, G2, B1, AV.asOwn, B3, A9, AV.isNil, J8, B6, B4, B8]
  ·have hb : A4n call args tx = true := by rw [hbd, d2]; rfl
   rw [bad hb]
   simp only [go_sem, hza, d2]
   ((try (with_reducible refine rF ?_)); (try simp only [go_sem, hza, d2]))
   refine wS [] ?_
   simp only [go_sem, J2, exists_eq_left', Option.some.injEq]
   simp [G1, G2, B1, AV.asOwn, B3, A9, AV.isNil, J8, B6, B4, B8]
 intro hb
 have hC' := good hb
 have hlo : least ≤ (args.length : Int) := (hba (by rw [hb]; decide)).1
 have hbl := hl
 refine A6 hR ?_
 by_cases h45 : k = 4 ∨ k = 5
 ·have hns : nsA call args = [] := by unfold nsA; rw [hk, if_pos h45]
  have h1 := hone rfl (Or.inl h45)
  have hane : args ≠ [] := fun e => by subst e; simp at hlo; omega
  have hc := hC [] (by simp) rfl (fun _ => hane) (fun h => by omega)
  obtain ⟨o1, o2, o3⟩ := hcore []
  rw [hns, if_pos (show ([] : List Num).all P0 = true from rfl)] at hC'
  subst hC'
  generalize A8u call l args [] tx = R at *
  obtain ⟨R, er⟩ := R
  simp only [List.map_nil] at hc o1 o2 o3 ⊢
  have h45d : (!decide (k = 4)) = false ∨ (!decide (k = 4)) = true ∧ (!decide (k = 5)) = false := by
   rcases h45 with h | h
   ·exact Or.inl (by simp [h])
   ·exact Or.inr ⟨by simp [h], by simp [h]⟩
  apply D1b (A := True)
  ·intro key
   rcases h45d with d4 | ⟨d4, d5⟩
   ·simp only [go_sem, d4]
    ((try (with_reducible refine rF ?_)); (try simp only [go_sem, d4]))
    refine A11 [] hc (.one (Wk.refl _) (.one (Wk.refl _) (.one (Wk.refl _) (.one Wk.empty (.one (Wk.refl _) .nil))))) (by simp) ?_
    simp only [go_sem]
    exact key trivial
   ·simp only [go_sem, d4, d5]
    ((try (with_reducible refine rF ?_)); (try simp only [go_sem, d4, d5]))
    refine A11 [] hc (.one (Wk.refl _) (.one (Wk.refl _) (.one (Wk.refl _) (.one Wk.empty (.one (Wk.refl _) .nil))))) (by simp) ?_
    simp only [go_sem]
    exact key trivial
  intro _
  cases d0 : decide (er = 0)
  ·have hR : R = [] := o3 (of_decide_eq_false d0)
   subst hR
   simp only [go_sem, d0, Bool.not_false]
   refine wS [] ?_
   simp only [go_sem, J2, exists_eq_left', Option.some.injEq]
   simp [G1, G2, B1, AV.asOwn, B3, A9, AV.isNil, J8, B6, B4, B8]
  ·have he := of_decide_eq_true d0
   subst he
   by_cases hne : R = []
   ·subst hne
    simp only [go_sem, d0, Bool.not_true]
    refine A6 A57 ?_
    simp only [go_sem]
    refine C8 (fun _ : Nat => 0) (fun i => i = 0)
     (fun i => [(17, .t (.sl 4 [])), (95, I i), (96, I i)]) (fun i => []) 0 rfl (sR [] []) ?_
    rintro i rfl
    have d00 : decide (((0 : Nat) : Int) < ((0 : Nat) : Int)) = false := rfl
    simp only [go_sem, L2, K7, d00]
    refine wS [] ?_
    simp only [go_sem, J2, exists_eq_left', Option.some.injEq]
    simp [G1, G2, B1, AV.asOwn, B3, A9, AV.isNil, J8, B6, B4, B8]
   ·have hRz : (R.map U4).length = R.length := by simp
    simp only [go_sem, d0, Bool.not_true]
    refine C18 (B9t R hne (by have o1 := o1; omega)) (by simp [A4, A9]) (by simp [A4]) ?_
    simp only [go_sem]
    refine C8 (fun i : Nat => R.length - i) (fun i => i ≤ R.length)
     (fun i => [(17, .own 700 4 0 R.length true), (95, I R.length), (96, I i)])
     (fun i => [(700, .row 4 true (R.map U4))]) 0 (Nat.zero_le _) (sR [] []) ?_
    rintro i hi
    by_cases hil : i < R.length
    ·have d00 : decide (i < R.length) = true := decide_eq_true hil
     have ib : (i : Int) < (R.length : Int) := by omega
     obtain ⟨x, hx⟩ := F0 hil
     have ei : IntKind.i64.wrap ((i : Int) + 1) = ((i + 1 : Nat) : Int) := by rw [A5 (by omega) (by have o1 := o1; omega)]; omega
     have hgx : (R.map U4)[i]? = some [.v (.string (D6 x.1)), .v (.int .i64 x.2.1), .v (.int .i64 x.2.2.1), .sl 2 (x.2.2.2.map D7)] := by
      rw [List.getElem?_map, hx]; rfl
     have hset := C7w hgx
     have hxl : x.2.2.2.length ≤ 100000 := by
      obtain ⟨s', hs', e'⟩ := o2 x (List.mem_of_getElem? hx)
      rw [e']; exact (hv s' hs').2.1
     simp only [go_sem, L2, K7, d00, ib, hgx]
     refine A6 (C5n x.2.2.2 (by omega)) ?_
     simp only [go_sem, L2, K7, d00, ib, hgx, hset, ei]
     ((try (with_reducible refine rF ?_)); (try simp only [go_sem, L2, K7, d00, ib, hgx, hset, ei]))
     exact C3 (i + 1) (by first | omega | (simp only; omega)) (by omega) (sR [] [])
    ·obtain rfl : i = R.length := by omega
     have d00 : decide (R.length < R.length) = false := decide_eq_false (by omega)
     simp only [go_sem, L2, K7, d00]
     refine wS [700] ?_
     simp only [go_sem, J2, exists_eq_left', Option.some.injEq]
     simp [G1, G2, B1, AV.asOwn, B3, A9, AV.isNil, J8, B6, B4, B8, hRz, List.take_of_length_le]
 ·have hns : nsA call args = args := by unfold nsA; rw [hk, if_neg h45]
  have d4 : (!decide (k = 4)) = true := by simp; omega
  have d5 : (!decide (k = 5)) = true := by simp; omega
  rw [hns] at hC'
  unfold B6e at hW
  cases hw : args.all P0
  ·rw [hw, if_neg (by decide)] at hC' hW
   subst hC'
   simp only [go_sem, d4, d5]
   ((try (with_reducible refine rF ?_)); (try simp only [go_sem, d4, d5]))
   refine A6 hW ?_
   simp only [go_sem]
   ((try (with_reducible refine rF ?_)); (try simp only [go_sem]))
   refine wS [] ?_
   simp only [go_sem, J2, exists_eq_left', Option.some.injEq]
   simp [G1, G2, B1, AV.asOwn, B3, A9, AV.isNil, J8, B6, B4, B8]
  ·rw [hw, if_pos rfl] at hC' hW
   have hc := hC args ha hw (fun h => absurd h h45) (fun h7 hal e => by
    have := hone rfl (Or.inr ⟨h7, hal⟩)
    subst e; simp at hlo; omega)
   obtain ⟨o1, o2, o3⟩ := hcore args
   subst hC'
   generalize A8u call l args args tx = R at *
   obtain ⟨R, er⟩ := R
   simp only at hc o1 o2 o3 ⊢
   simp only [go_sem, d4, d5]
   ((try (with_reducible refine rF ?_)); (try simp only [go_sem, d4, d5]))
   refine A6 hW ?_
   simp only [go_sem]
   ((try (with_reducible refine rF ?_)); (try simp only [go_sem]))
   refine A6 hc ?_
   simp only [go_sem]
   cases d0 : decide (er = 0)
   ·have hR : R = [] := o3 (of_decide_eq_false d0)
    subst hR
    simp only [go_sem, d0, Bool.not_false]
    refine wS [] ?_
    simp only [go_sem, J2, exists_eq_left', Option.some.injEq]
    simp [G1, G2, B1, AV.asOwn, B3, A9, AV.isNil, J8, B6, B4, B8]
   ·have he := of_decide_eq_true d0
    subst he
    by_cases hne : R = []
    ·subst hne
     simp only [go_sem, d0, Bool.not_true]
     refine A6 A57 ?_
     simp only [go_sem]
     refine C8 (fun _ : Nat => 0) (fun i => i = 0)
      (fun i => [(17, .t (.sl 4 [])), (95, I i), (96, I i)]) (fun i => []) 0 rfl (sR [] []) ?_
     rintro i rfl
     have d00 : decide (((0 : Nat) : Int) < ((0 : Nat) : Int)) = false := rfl
     simp only [go_sem, L2, K7, d00]
     refine wS [] ?_
     simp only [go_sem, J2, exists_eq_left', Option.some.injEq]
     simp [G1, G2, B1, AV.asOwn, B3, A9, AV.isNil, J8, B6, B4, B8]
    ·have hRz : (R.map U4).length = R.length := by simp
     simp only [go_sem, d0, Bool.not_true]
     refine C18 (B9t R hne (by have o1 := o1; omega)) (by simp [A4, A9]) (by simp [A4]) ?_
     simp only [go_sem]
     refine C8 (fun i : Nat => R.length - i) (fun i => i ≤ R.length)
      (fun i => [(17, .own 700 4 0 R.length true), (95, I R.length), (96, I i)])
      (fun i => [(700, .row 4 true (R.map U4))]) 0 (Nat.zero_le _) (sR [] []) ?_
     rintro i hi
     by_cases hil : i < R.length
     ·have d00 : decide (i < R.length) = true := decide_eq_true hil
      have ib : (i : Int) < (R.length : Int) := by omega
      obtain ⟨x, hx⟩ := F0 hil
      have ei : IntKind.i64.wrap ((i : Int) + 1) = ((i + 1 : Nat) : Int) := by rw [A5 (by omega) (by have o1 := o1; omega)]; omega
      have hgx : (R.map U4)[i]? = some [.v (.string (D6 x.1)), .v (.int .i64 x.2.1), .v (.int .i64 x.2.2.1), .sl 2 (x.2.2.2.map D7)] := by
       rw [List.getElem?_map, hx]; rfl
      have hset := C7w hgx
      have hxl : x.2.2.2.length ≤ 100000 := by
       obtain ⟨s', hs', e'⟩ := o2 x (List.mem_of_getElem? hx)
       rw [e']; exact (hv s' hs').2.1
      simp only [go_sem, L2, K7, d00, ib, hgx]
      refine A6 (C5n x.2.2.2 (by omega)) ?_
      simp only [go_sem, L2, K7, d00, ib, hgx, hset, ei]
      ((try (with_reducible refine rF ?_)); (try simp only [go_sem, L2, K7, d00, ib, hgx, hset, ei]))
      exact C3 (i + 1) (by first | omega | (simp only; omega)) (by omega) (sR [] [])
     ·obtain rfl : i = R.length := by omega
      have d00 : decide (R.length < R.length) = false := decide_eq_false (by omega)
      simp only [go_sem, L2, K7, d00]
      refine wS [700] ?_
      simp only [go_sem, J2, exists_eq_left', Option.some.injEq]
      simp [G1, G2, B1, AV.asOwn, B3, A9, AV.isNil, J8, B6, B4, B8, hRz, List.take_of_length_le]

def alA : F4 := ([97], 0, 60, [(false, 1000000)])
def alB : F4 := ([98], 0, 60, [(false, 5000000)])
def alC : F4 := ([99], 0, 60, [(false, 3000000)])
def alN : F4 := ([97, 46, 98, 46, 99], 0, 60, [(false, 1000000)])
def alM : F4 := ([99, 46, 97], 0, 60, [(false, 1000000)])
def C09 : List UInt8 := [104, 105, 103, 104, 101, 115, 116, 77, 97, 120]

theorem E2y : (A28 C09 [alA, alB, alC] [(false, 2000000)] []).1 = [alB, alC] ∧ (A28 C09 [alA, alB, alC] [(false, 2000000)] []).2 = 0 := by decide +kernel
theorem E2x : (A28 A4k [alN] [(false, 2000000), (false, 0)] []).1 = [alM] ∧ (A28 A4k [alN] [(false, 2000000), (false, 0)] []).2 = 0 := by decide +kernel

/-- How much there is, as far as is counted. -/
def B5t : List F4 → Int → Int
 | [], n => n
 | s :: l, n => if n ≤ 600 then B5t l (n + ((s.2.2.2.length : Int) + (min (s.1.length : Int) 10000) / 10)) else n

def C4q (wd tx : List UInt8) (args : List Num) (l : List F4) : Bool := decide (600 < B5t l ((l.length : Int) + (args.length : Int))) || (decide ((1000 : Int) < (wd.length : Int)) || decide ((1000 : Int) < (tx.length : Int)))

theorem D1l : ∀ (l : List F4) (n : Int), B5t l n ≤ 600 → n ≤ 600 ∧ (0 ≤ n → ∀ s ∈ l, s.1.length ≤ 6009 ∧ s.2.2.2.length ≤ 600)
 | [], n, h => ⟨h, fun _ s hs => absurd hs (by simp)⟩
 | s :: l, n, h => by
  unfold B5t at h
  by_cases hn : n ≤ 600
  ·rw [if_pos hn] at h
   obtain ⟨h1, h2⟩ := D1l l _ h
   refine ⟨hn, fun h0 x hx => ?_⟩
   rcases List.mem_cons.1 hx with rfl | hx
   ·exact ⟨by omega, by omega⟩
   ·exact h2 (by omega) x hx
  ·rw [if_neg hn] at h
   exact absurd h hn

theorem D07 {wd tx : List UInt8} {args : List Num} {l : List F4} (h : C4q wd tx args l = false) : l.length ≤ 600 ∧ args.length ≤ 600 ∧ wd.length ≤ 1000 ∧ tx.length ≤ 1000 ∧ ∀ s ∈ l, s.1.length ≤ 6009 ∧ s.2.2.2.length ≤ 600 := by
 unfold C4q at h
 simp only [Bool.or_eq_false_iff, decide_eq_false_iff_not] at h
 obtain ⟨h1, h2, h3⟩ := h
 obtain ⟨g1, g2⟩ := D1l l ((l.length : Int) + (args.length : Int)) (by omega)
 exact ⟨by omega, by omega, by omega, by omega, g2 (by omega)⟩

theorem C2d (call : List UInt8) (l : List F4) (args : List Num) (tx : List UInt8) : ((A28 call l args tx).1 = [] ∧ (A28 call l args tx).2 ≠ 0) ∨ ((O2 call).2.2 = true ∧ l.any (fun s => !A29 s) = false ∧ l.length ≤ 128 ∧ A4n call args tx = false ∧ (nsA call args).all P0 = true ∧ A28 call l args tx = A8u call l args (nsA call args) tx) := by
 unfold A28
 split
 ·exact Or.inl ⟨rfl, by decide⟩
 ·split
  ·exact Or.inl ⟨rfl, by decide⟩
  ·split
   ·exact Or.inl ⟨rfl, by decide⟩
   ·split
    ·exact Or.inl ⟨rfl, by decide⟩
    ·split
     ·rename_i h1 h2 h3 h4 h5
      exact Or.inr ⟨by simpa using h1, by simpa using h2, by omega, by simpa using h4, h5, rfl⟩
     ·exact Or.inl ⟨rfl, by decide⟩

theorem D7z (call : List UInt8) (l : List F4) (args : List Num) (tx : List UInt8) : (A28 call l args tx).1.length ≤ l.length := by
 rcases C2d call l args tx with ⟨h1, _⟩ | ⟨_, _, _, _, _, e⟩
 ·rw [h1]; simp
 ·rw [e]; exact (C91 call l args (nsA call args) tx).1

theorem D55 (call : List UInt8) (l : List F4) (args : List Num) (tx : List UInt8) : ∀ s ∈ (A28 call l args tx).1, ∃ s' ∈ l, s.2 = s'.2 := by
 rcases C2d call l args tx with ⟨h1, _⟩ | ⟨_, _, _, _, _, e⟩
 ·rw [h1]; simp
 ·rw [e]; exact (C91 call l args (nsA call args) tx).2.1

theorem A9j (nm : List UInt8) (v : Int) (hv : -1000 ≤ v ∧ v ≤ 1000) : Meets Tryz.prog E0 T3 [Q5 (D6 nm), .t (.sl 1 [[.v (.int .i64 v)]])] [] (B24 (nm, 0, 60, [(false, v * 1000000)])) [] := by
 have w1 : IntKind.i64.wrap (v * 1000000) = v * 1000000 := A5 (by omega) (by omega)
 have b16 : (16 : Nat) ≤ 2 ^ 47 := by decide
 refine X6 D2p ?_
 simp only [go_sem, C4h]
 refine C8 (fun b : Bool => match b with | false => 1 | true => 0) (fun _ => True)
  (fun b => [(0, Q5 (D6 nm)), (1, .t (.sl 1 [[.v (.int .i64 v)]])), (4, .ptr 100 0), (5, .ptr 103 0), (6, match b with | false => I (0 : Nat) | true => I (1 : Nat))])
  (fun b => match b with | false => [(103, .box [Q5 (D6 nm), I 0, I 60, .t (.v (.slice none 0 0))]), (100, .box [Q5 (bs []), I 0, I 0, .t (.v (.slice none 0 0))])] | true => [(103, .box [Q5 (D6 nm), I 0, I 60, .own 999 2 0 1 true]), (100, .box [Q5 (bs []), I 0, I 0, .t (.v (.slice none 0 0))]), (999, .row 2 true [[.v (.bool false), .v (.int .i64 (v * 1000000))]])]) false trivial ?_ ?_
 ·simp only
  exact (sR [] [])
 intro b _
 cases b
 ·have d0 : decide (((0 : Nat) : Int) < ((1 : Nat) : Int)) = true := rfl
  have d1 : decide (0 < 1) = true := rfl
  have e1 : IntKind.i64.wrap (((0 : Nat) : Int) + 1) = ((1 : Nat) : Int) := by decide
  simp only [go_sem, d0, d1, w1, b16]
  ((try (with_reducible refine rF ?_)); (try simp only [go_sem, e1]))
  refine C3 true (by simp) trivial ?_
  simp only
  exact (sR [(999, 119)] [])
 ·have d0 : decide (((1 : Nat) : Int) < ((1 : Nat) : Int)) = false := rfl
  have d1 : decide (1 < 1) = false := rfl
  simp only [go_sem, d0, d1]
  refine wS [999] ?_
  simp only [go_sem, C65, exists_eq_left', Option.some.injEq]
  simp [G1, G2, B1, AV.asOwn, B3, A9, AV.isNil, J8, B6, B4, B8, D7]

theorem C69 (wd tx : List UInt8) (args : List Num) (l : List F4) (h1 : l.length ≤ 4611686018427387904) (h2 : args.length ≤ 4611686018427387903) (h3 : ∀ s ∈ l, s.2.2.2.length ≤ 4611686018427387904) :
  Meets Tryz.prog E0 B1c [.ag [Q5 (D6 wd), M6 args, Q5 (D6 tx)], A0e l] [] (Bo (C4q wd tx args l)) [] := by
 refine X6 C6a ?_
 have hz : (l.map U4).length = l.length := by simp
 have hza : (args.map D7).length = args.length := by simp
 have w0 : IntKind.i64.wrap ((l.length : Int) + (args.length : Int)) = (l.length : Int) + (args.length : Int) := A5 (by omega) (by omega)
 unfold C4q
 generalize hv : B5t l ((l.length : Int) + (args.length : Int)) = v
 simp only [go_sem, B7r, hz, hza, w0]
 refine C8 (fun i : Nat × Int => l.length - i.1) (fun i => i.1 ≤ l.length ∧ 0 ≤ i.2 ∧ i.2 ≤ 9223372036854775807 ∧ B5t (l.drop i.1) i.2 = v) (fun i => [(1, A0e l), (2, .ptr 100 0), (5, I i.2), (6, I i.1)]) (fun _ => [(100, .box [Q5 (D6 wd), M6 args, Q5 (D6 tx)])]) (0, (l.length : Int) + (args.length : Int)) ⟨Nat.zero_le _, by simp only; omega, by simp only; omega, hv⟩ (sR [] []) ?_
 rintro ⟨i, n⟩ ⟨hi, hn0, hn1, hm⟩
 simp only at hi hn0 hn1 hm
 apply D1b (A := n = v)
 ·intro key
  by_cases hil : i < l.length
  ·have d0 : decide (i < l.length) = true := decide_eq_true hil
   obtain ⟨s, hs⟩ := F0 hil
   have hg : (l.map U4)[i]? = some [.v (.string (D6 s.1)), .v (.int .i64 s.2.1), .v (.int .i64 s.2.2.1), .sl 2 (s.2.2.2.map D7)] := by rw [List.getElem?_map, hs]; rfl
   have hzs : (s.2.2.2.map D7).length = s.2.2.2.length := by simp
   have h3s := h3 s (List.mem_of_getElem? hs)
   rw [A05 hs] at hm
   simp only [B5t] at hm
   by_cases hle : n ≤ 600
   ·have d1 : decide (n ≤ 600) = true := decide_eq_true hle
    have a0 : ¬ (10 : Int) = 0 := by decide
    have hmn : 0 ≤ min (s.1.length : Int) 10000 ∧ min (s.1.length : Int) 10000 ≤ 10000 := by omega
    rw [if_pos hle] at hm
    obtain ⟨mn, hmnE⟩ : ∃ mn, min (s.1.length : Int) 10000 = mn := ⟨_, rfl⟩
    rw [hmnE] at hmn hm
    have ei : IntKind.i64.wrap ((i : Int) + 1) = ((i + 1 : Nat) : Int) := by rw [A5 (by omega) (by omega)]; omega
    have eq : mn.tdiv 10 = mn / 10 := J1 hmn.1
    have eq2 : IntKind.i64.wrap (mn / 10) = mn / 10 := A5 (by omega) (by omega)
    have e1 : IntKind.i64.wrap ((s.2.2.2.length : Int) + mn / 10) = (s.2.2.2.length : Int) + mn / 10 := A5 (by omega) (by omega)
    have e2 : IntKind.i64.wrap (n + ((s.2.2.2.length : Int) + mn / 10)) = n + ((s.2.2.2.length : Int) + mn / 10) := A5 (by omega) (by omega)
    simp only [go_sem, hz, d0, d1, hg, hzs, C9, hmnE, eq, eq2, e1, e2, ei]
    exact C3 (i + 1, n + ((s.2.2.2.length : Int) + mn / 10)) (by first | omega | (simp only; omega)) ⟨by simp only; omega, by simp only; omega, by simp only; omega, hm⟩ (sR [] [])
   ·have d1 : decide (n ≤ 600) = false := decide_eq_false hle
    rw [if_neg hle] at hm
    simp only [go_sem, hz, d0, d1]
    exact key hm
  ·obtain rfl : i = l.length := by omega
   have d0 : decide (l.length < l.length) = false := decide_eq_false (by omega)
   rw [List.drop_length] at hm
   simp only [B5t] at hm
   simp only [go_sem, hz, d0]
   exact key hm
 intro hv2
 subst hv2
 cases d1 : decide (600 < n)
 ·cases d2 : decide ((1000 : Int) < (wd.length : Int))
  ·cases d3 : decide ((1000 : Int) < (tx.length : Int))
   ·simp only [go_sem, C9, d1, d2, d3]
    refine wE ?_
    simp only [go_sem, A3z]
    first | done | rfl
   ·simp only [go_sem, C9, d1, d2, d3]
    refine wE ?_
    simp only [go_sem, A3z]
    first | done | rfl
  ·simp only [go_sem, C9, d1, d2]
   refine wE ?_
   simp only [go_sem, A3z]
   first | done | rfl
 ·simp only [go_sem, C9, d1]
  refine wE ?_
  simp only [go_sem, A3z]
  first | done | rfl

theorem D0x {call tx : List UInt8} {args : List Num} {l : List F4} {R : List F4 × Int} (hv : ∀ s ∈ l, s.2.2.2.length ≤ 100000) (h : A28 call l args tx = R) : R.1.length ≤ l.length ∧ ∀ s ∈ R.1, s.2.2.2.length ≤ maxLen := by
 subst h
 refine ⟨D7z _ _ _ _, fun s hs => ?_⟩
 obtain ⟨s', h', e'⟩ := D55 call l args tx s hs
 rw [e']
 have := hv s' h'
 unfold maxLen
 omega

theorem Tryz.own : ownKnob Tryz.prog.godebug = none := by kernel_rfl

theorem Tryz.laidOut : laidOutB Tryz.prog = true := by kernel_rfl

theorem E2r {i : Int} (h : (Lit.int .i64 i).wf = true) : -9223372036854775808 ≤ i ∧ i < 9223372036854775808 := by
 simp [Lit.wf, IntKind.has, IntKind.min, IntKind.max, IntKind.signed, IntKind.bits] at h
 omega

end Go.Proofs.YtgmpceijcdimkaaGreatDoor
namespace Go.Proofs.YtgmpceijcdimkaaGreatDoor
open Go Go.Sx Go.ChangeShapes Go.WideShapes Go.ChangeAt Go.RowKit

/-- The witness's world: the listed variables hold what their initialisers lay. -/
noncomputable def B63 (os : Os) : World :=
 let N := (World.settled Tryz.prog os).heap.size
 let w0 := World.holding Tryz.prog os ⟨#[], #[], []⟩
 let put (h : Array Obj) (g : Nat) (cs : Array Value) : Array Obj := h.modify g fun
  | .cells _ t frozen => .cells cs t frozen
  | o => o
 let h0 := w0.heap
 let h1 := put h0 4 #[.int .u8 (128), .int .u8 (191), .int .u8 (160), .int .u8 (191), .int .u8 (128), .int .u8 (159), .int .u8 (144), .int .u8 (191), .int .u8 (128), .int .u8 (143), .int .u8 (0), .int .u8 (0), .int .u8 (0), .int .u8 (0), .int .u8 (0), .int .u8 (0), .int .u8 (0), .int .u8 (0), .int .u8 (0), .int .u8 (0), .int .u8 (0), .int .u8 (0), .int .u8 (0), .int .u8 (0), .int .u8 (0), .int .u8 (0), .int .u8 (0), .int .u8 (0), .int .u8 (0), .int .u8 (0), .int .u8 (0), .int .u8 (0)]
 let h2 := put h1 3 (Go.Pinned.utf8FirstZ.map fun z : Nat => Value.int .u8 (z : Int)).toArray
 { w0 with heap := h2 }

theorem C0w (s : ByteArray) : D6 s.data.toList = s := B6h (by rw [X2])

abbrev E3a : Sh := .st [.bo, .it .i64]
abbrev E1j : Sh := .st [.str, .it .i64, .it .i64, .sl 2 (.st [.bo, .it .i64])]

theorem E1l {e : List T} (h : okS E3a e) : ∃ n : Num, e = D7 n ∧ inN n := by
 rw [okS] at h
 simp only [D0w, okS] at h
 obtain ⟨_, _, rfl, ⟨x, rfl⟩, _, _, rfl, ⟨v, rfl, hv⟩, rfl⟩ := h
 exact ⟨(x, v), rfl, E2r hv⟩

theorem D4u {es : List (List T)} (h : ∀ c ∈ es, okS E3a c) : ∃ l : List Num, es = l.map D7 ∧ ∀ n ∈ l, inN n := by
 induction es with
 | nil => exact ⟨[], rfl, by simp⟩
 | cons e es ih =>
  obtain ⟨l, rfl, hl⟩ := ih (fun c hc => h c (by simp [hc]))
  obtain ⟨n, rfl, hn⟩ := E1l (h e (by simp))
  refine ⟨n :: l, rfl, fun x hx => ?_⟩
  rcases List.mem_cons.1 hx with rfl | hx
  ·exact hn
  ·exact hl x hx

theorem E29 {e : List T} (h : okS E1j e) : ∃ s : F4, e = U4 s ∧ s.2.2.2.length ≤ 4611686018427387904 ∧ inS s := by
 rw [okS] at h
 simp only [D0w] at h
 obtain ⟨_, _, rfl, h1, _, _, rfl, h2, _, _, rfl, h3, _, _, rfl, h4, rfl⟩ := h
 simp only [okS] at h1 h2 h3
 obtain ⟨a, rfl, _⟩ := h1
 obtain ⟨x, rfl, _⟩ := h2
 obtain ⟨y, rfl, _⟩ := h3
 rw [okS] at h4
 obtain ⟨es, rfl, hl, he⟩ := h4
 obtain ⟨l, rfl, hn⟩ := D4u he
 rw [List.length_map] at hl
 refine ⟨(a.data.toList, x, y, l), ?_, by unfold reachBytes at hl; simp only; omega, hn⟩
 simp only [U4, C0w]
 rfl

theorem D9i {es : List (List T)} (h : ∀ c ∈ es, okS E1j c) : ∃ l : List F4, es = l.map U4 ∧ ∀ s ∈ l, s.2.2.2.length ≤ 4611686018427387904 ∧ inS s := by
 induction es with
 | nil => exact ⟨[], rfl, by simp⟩
 | cons e es ih =>
  obtain ⟨l, rfl, hl⟩ := ih (fun c hc => h c (by simp [hc]))
  obtain ⟨s, rfl, hs⟩ := E29 (h e (by simp))
  refine ⟨s :: l, rfl, fun x hx => ?_⟩
  rcases List.mem_cons.1 hx with rfl | hx
  ·exact hs
  ·exact hl x hx

theorem D9y {e : List T} (h : okS (.sl 4 E1j) e) : ∃ l : List F4, e = [.sl 4 (l.map U4)] ∧ l.length ≤ 4611686018427387903 ∧ ∀ s ∈ l, s.2.2.2.length ≤ 4611686018427387904 ∧ inS s := by
 rw [okS] at h
 obtain ⟨es, rfl, hl, he⟩ := h
 obtain ⟨l, rfl, hs⟩ := D9i he
 rw [List.length_map] at hl
 exact ⟨l, rfl, by unfold reachBytes at hl; omega, hs⟩

abbrev E3n : Sh := .st [.str, .sl 2 (.st [.bo, .it .i64]), .str]

theorem D9b {e : List T} (h : okS E3n e) : ∃ (w t : List UInt8) (a : List Num), AV.ag (e.map .t) = .ag [Q5 (D6 w), M6 a, Q5 (D6 t)] ∧ a.length ≤ 4611686018427387903 ∧ ∀ n ∈ a, inN n := by
 rw [okS] at h
 simp only [D0w] at h
 obtain ⟨_, _, rfl, h1, _, _, rfl, h2, _, _, rfl, h3, rfl⟩ := h
 simp only [okS] at h1 h3
 obtain ⟨a, rfl, _⟩ := h1
 obtain ⟨b, rfl, _⟩ := h3
 rw [okS] at h2
 obtain ⟨es, rfl, hl, he⟩ := h2
 obtain ⟨l, rfl, hn⟩ := D4u he
 rw [List.length_map] at hl
 refine ⟨a.data.toList, b.data.toList, l, ?_, by unfold reachBytes at hl; omega, hn⟩
 rw [C0w, C0w]
 rfl

end Go.Proofs.YtgmpceijcdimkaaGreatDoor
namespace Go.Proofs.YtgmpceijcdimkaaGreatDoor
open Go Go.Sx

theorem B7i : Meets Tryz.prog E0 B0w [] [] (Bo true) [] := by
 refine X6 C73 ?_
 have hA : Meets Tryz.prog E0 T3 [Q5 (bs [97]), .t (.sl 1 [[.v (.int .i64 1)]])] [] (B24 alA) [] := A9j [97] 1 (by decide)
 have hB : Meets Tryz.prog E0 T3 [Q5 (bs [98]), .t (.sl 1 [[.v (.int .i64 5)]])] [] (B24 alB) [] := A9j [98] 5 (by decide)
 have hC : Meets Tryz.prog E0 T3 [Q5 (bs [99]), .t (.sl 1 [[.v (.int .i64 3)]])] [] (B24 alC) [] := A9j [99] 3 (by decide)
 have hN : Meets Tryz.prog E0 T3 [Q5 (bs [97, 46, 98, 46, 99]), .t (.sl 1 [[.v (.int .i64 1)]])] [] (B24 alN) [] := A9j [97, 46, 98, 46, 99] 1 (by decide)
 have hM : Meets Tryz.prog E0 T3 [Q5 (bs [99, 46, 97]), .t (.sl 1 [[.v (.int .i64 1)]])] [] (B24 alM) [] := A9j [99, 46, 97] 1 (by decide)
 have a1 := A9b C09 [alA, alB, alC] [(false, 2000000)] [] (by decide) (by decide) (by decide) (by simp [alA, alB, alC, inS, inN]) (by simp [inN])
 have a2 := A9b A4k [alN] [(false, 2000000), (false, 0)] [] (by decide) (by decide) (by decide) (by simp [alN, inS, inN]) (by simp [inN])
 rw [E2y.1, E2y.2] at a1
 rw [E2x.1, E2x.2] at a2
 have s1 := A3c [alB, alC] [alB, alC] (by decide) (by decide) (by decide)
 have s2 := A3c [alM] [alM] (by decide) (by decide) (by decide)
 rw [decide_eq_true rfl] at s1 s2
 have d0 : decide ((0 : Int) = 0) = true := rfl
 have e1 : D6 C09 = bs [104, 105, 103, 104, 101, 115, 116, 77, 97, 120] := rfl
 have e2 : D6 A4k = bs [97, 108, 105, 97, 115, 66, 121, 78, 111, 100, 101] := rfl
 have e3 : D6 [] = bs [] := rfl
 have vA : A0e [alA, alB, alC] = .t (.sl 4 [U4 alA, U4 alB, U4 alC]) := rfl
 rw [e1, e3] at a1
 rw [e2, e3] at a2
 simp only [go_sem, B7d]
 refine A11 [101] hA (.one (Wk.refl _) (.one (Wk.row (by simp [B1, AV.asOwn, B3, A9]) (by simp)) .nil)) (by simp [A9]) ?_
 simp only [go_sem]
 refine A11 [103] hB (.one (Wk.refl _) (.one (Wk.row (by simp [B1, AV.asOwn, B3, A9]) (by simp)) .nil)) (by simp [A9]) ?_
 simp only [go_sem]
 refine A11 [105] hC (.one (Wk.refl _) (.one (Wk.row (by simp [B1, AV.asOwn, B3, A9]) (by simp)) .nil)) (by simp [A9]) ?_
 simp only [go_sem]
 refine A11 [107, 109] a1 (.one (Wk.refl _) (.one (Wk.row (by simp [B1, AV.asOwn, B3, A9, U4]) (by simp)) (.one (Wk.row (by simp [B1, AV.asOwn, B3, A9, D7]) (by simp)) (.one (Wk.refl _) .nil)))) (by simp [A9]) ?_
 simp only [go_sem]
 refine A11 [116] hN (.one (Wk.refl _) (.one (Wk.row (by simp [B1, AV.asOwn, B3, A9]) (by simp)) .nil)) (by simp [A9]) ?_
 simp only [go_sem]
 refine A11 [118, 121] a2 (.one (Wk.refl _) (.one (Wk.row (by simp [B1, AV.asOwn, B3, A9, U4]) (by simp)) (.one (Wk.row (by simp [B1, AV.asOwn, B3, A9, D7]) (by simp)) (.one (Wk.refl _) .nil)))) (by simp [A9]) ?_
 simp only [go_sem, d0]
 refine A11 [136] hB (.one (Wk.refl _) (.one (Wk.row (by simp [B1, AV.asOwn, B3, A9]) (by simp)) .nil)) (by simp [A9]) ?_
 simp only [go_sem]
 refine A11 [138] hC (.one (Wk.refl _) (.one (Wk.row (by simp [B1, AV.asOwn, B3, A9]) (by simp)) .nil)) (by simp [A9]) ?_
 simp only [go_sem]
 refine A11 [140] s1 (.one (Wk.refl _) (.one (Wk.row (by simp [B1, AV.asOwn, B3, A9, U4]) (by simp)) .nil)) (by simp [A9]) ?_
 simp only [go_sem]
 refine A11 [145] hM (.one (Wk.refl _) (.one (Wk.row (by simp [B1, AV.asOwn, B3, A9]) (by simp)) .nil)) (by simp [A9]) ?_
 simp only [go_sem]
 refine A11 [147] s2 (.one (Wk.refl _) (.one (Wk.row (by simp [B1, AV.asOwn, B3, A9, U4]) (by simp)) .nil)) (by simp [A9]) ?_
 simp only [go_sem]
 refine wE ?_
 simp only [go_sem, B7h]

theorem C7b {n : Num} (h : okN n.1 n.2 = true) : (B0p n && (decide (0 ≤ w25 n) && decide (w25 n ≤ 1099511627776))) = P0 n := by
 obtain ⟨x, v⟩ := n
 obtain ⟨_, h1, h2⟩ := S9 h
 simp only at h1 h2
 subst h1
 have hb : C1e (false, v) = true := by unfold C1e; simp; omega
 have ht : B0p (false, v) = decide (v.tmod 1000000 = 0) := by unfold B0p; rw [hb]; simp
 unfold w25
 rw [ht]
 unfold P0
 simp only
 cases hm : decide (v.tmod 1000000 = 0)
 ·rw [Bool.false_and]
  rcases Int.lt_or_le v 0 with q | q
  ·rw [decide_eq_false (show ¬ 0 ≤ v by omega)]; rfl
  ·have e : v.tmod 1000000 = v % 1000000 := J6 q
   rw [e] at hm
   rw [hm, Bool.false_and, Bool.and_false]
 ·rw [if_pos rfl, Bool.true_and]
  rcases Int.lt_or_le v 0 with q | q
  ·have e : v.tdiv 1000000 = - ((-v) / 1000000) := by rw [← J1 (show 0 ≤ -v by omega), Int.neg_tdiv, Int.neg_neg]
   have e2 : v.tmod 1000000 = - ((-v) % 1000000) := by rw [← J6 (show 0 ≤ -v by omega), Int.neg_tmod, Int.neg_neg]
   have hm' := of_decide_eq_true hm
   rw [e2] at hm'
   rw [decide_eq_false (show ¬ 0 ≤ v by omega), e, decide_eq_false (show ¬ 0 ≤ - ((-v) / 1000000) by omega)]
   rfl
  ·have e : v.tdiv 1000000 = v / 1000000 := J1 q
   have e2 : v.tmod 1000000 = v % 1000000 := J6 q
   rw [e2] at hm
   rw [hm, e, decide_eq_true q, decide_eq_true (show 0 ≤ v / 1000000 by omega), Bool.true_and, Bool.true_and]

theorem E0e {n : Num} (h : okN n.1 n.2 = true) (hw : P0 n = true) : w25 n = n.2 / 1000000 := by
 have ht : B0p n = true := by
  rw [← C7b h] at hw
  simp only [Bool.and_eq_true] at hw
  exact hw.1
 unfold w25
 rw [if_pos ht]
 unfold P0 at hw
 simp only [Bool.and_eq_true, decide_eq_true_eq] at hw
 exact J1 hw.1

theorem E1g {n : Num} (h : okN n.1 n.2 = false) : n.1 = true ∨ (n.1 = false ∧ decide (-9223372036854775808 < n.2) = false) := by
 unfold okN at h
 cases hx : n.1
 ·rw [hx] at h; exact Or.inr ⟨rfl, by simpa using h⟩
 ·exact Or.inl rfl

theorem E17 {k : Int} (h : B80 k = 3 ∨ B80 k = 4) : k = 4 ∨ k = 5 := by
 unfold B80 at h
 split at h
 ·omega
 ·split at h
  ·omega
  ·split at h
   ·omega
   ·split at h
    ·omega
    ·omega

theorem C9b {α : Type} {p : α → Bool} {l : List α} (h : l.all p = true) : l.any (fun x => !p x) = false := by
 rw [List.any_eq_false]
 intro x hx
 rw [List.all_eq_true.1 h x hx]; decide

theorem D49 {α : Type} {p : α → Bool} {l : List α} {i : Nat} {x : α} (hx : l[i]? = some x) (h : p x = false) : l.any (fun x => !p x) = true :=
 List.any_eq_true.2 ⟨x, List.mem_of_getElem? hx, by rw [h]; rfl⟩

set_option maxHeartbeats 16000000 in
theorem C6m (call : List UInt8) (l : List F4) (args : List Num) (tx : List UInt8) (hl : l.length ≤ 100000) (ha : args.length ≤ 100000) (hv : ∀ s ∈ l, s.1.length ≤ 100000 ∧ s.2.2.2.length ≤ 100000 ∧ inS s) (hn : ∀ n ∈ args, inN n) (htx : tx.length ≤ 100000) :
  Meets Tryz.prog E0 B0r [Q5 (D6 call), A0e l, M6 args, Q5 (D6 tx)] [] (.tp [A0e (D5s call l args tx).1, I (D5s call l args tx).2]) [] := by
 have hT := B75 call
 have hK := B8o call
 have hz : (l.map U4).length = l.length := by simp
 have hza : (args.map D7).length = args.length := by simp
 have q : S2 .neq (D6 tx) (bs []) = some (.bool (!(tx == []))) := neT tx []
 have qg : S2 .eql (D6 call) (bs [103, 114, 101, 112]) = some (.bool (call == A8q)) := eqT call A8q
 have qe : S2 .eql (D6 call) (bs [101, 120, 99, 108, 117, 100, 101]) = some (.bool (call == B42)) := eqT call B42
 have qa : S2 .eql (D6 call) (bs [97, 108, 105, 97, 115]) = some (.bool (call == A01)) := eqT call A01
 have qo : S2 .eql (D6 call) (bs [97, 108, 105, 97, 115, 66, 121, 78, 111, 100, 101]) = some (.bool (call == A4k)) := eqT call A4k
 have qn : S2 .eql (D6 call) (bs [115, 111, 114, 116, 66, 121, 78, 97, 109, 101]) = some (.bool (call == X7)) := eqT call X7
 generalize hE : D5s call l args tx = C
 unfold D5s at hE
 refine X6 C6g ?_
 simp only [go_sem, B7g]
 refine A6 hT ?_
 have hba := C5s (call := call) (args := args) (tx := tx)
 have hbd : A4n call args tx = (decide ((args.length : Int) < (O2 call).1.1) || (decide ((O2 call).1.2 < (args.length : Int)) || (args.any (fun n => !okN n.1 n.2) || (!(tx == []) && !(O2 call).2.1)))) := rfl
 have hone := C10 call
 have hke := C9n call
 generalize O2 call = t at *
 obtain ⟨⟨least, most⟩, texts, ok⟩ := t
 simp only at hE hba hbd hone
 cases ok
 ·rw [if_pos rfl] at hE
  subst hE
  simp only [go_sem]
  refine wS [] ?_
  simp only [go_sem, G5, exists_eq_left', Option.some.injEq]
  simp [G1, G2, B1, AV.asOwn, B3, A9, AV.isNil, J8, B6, B4, B8]
 rw [if_neg (by decide)] at hE
 simp only [go_sem]
 refine C8 (fun i : Nat => l.length - i) (fun i => i ≤ l.length ∧ (l.take i).all A29 = true)
  (fun i => [(0, Q5 (D6 call)), (1, A0e l), (2, M6 args), (3, Q5 (D6 tx)), (10, I least), (11, I most), (12, Bo texts), (14, I i)]) (fun _ => []) 0 ⟨Nat.zero_le _, rfl⟩ (sR [] []) ?_
 rintro i ⟨hi, hall⟩
 by_cases hil : i < l.length
 ·have d0 : decide (i < l.length) = true := decide_eq_true hil
  obtain ⟨x, hx⟩ := F0 hil
  have hxv := hv x (List.mem_of_getElem? hx)
  have hgx : (l.map U4)[i]? = some [.v (.string (D6 x.1)), .v (.int .i64 x.2.1), .v (.int .i64 x.2.2.1), .sl 2 (x.2.2.2.map D7)] := by rw [List.getElem?_map, hx]; rfl
  have ei : IntKind.i64.wrap ((i : Int) + 1) = ((i + 1 : Nat) : Int) := by rw [A5 (by omega) (by omega)]; omega
  have hR := C6j x (by omega) hxv.2.2
  simp only [go_sem, A65, hz, d0, hgx]
  refine A6 hR ?_
  cases hr : A29 x
  ·rw [if_pos (D49 (p := A29) hx hr)] at hE
   subst hE
   simp only [go_sem, Bool.not_false]
   ((try (with_reducible refine rF ?_)); (try simp only [go_sem, Bool.not_false]))
   refine wS [] ?_
   simp only [go_sem, G5, exists_eq_left', Option.some.injEq]
   simp [G1, G2, B1, AV.asOwn, B3, A9, AV.isNil, J8, B6, B4, B8]
  ·simp only [go_sem, ei, Bool.not_true]
   ((try (with_reducible refine rF ?_)); (try simp only [go_sem, ei, Bool.not_true]))
   exact C3 (i + 1) (by first | omega | (simp only; omega)) ⟨by omega, B5l hx hall hr⟩ (sR [] [])
 obtain rfl : i = l.length := by omega
 have d0 : decide (l.length < l.length) = false := decide_eq_false (by omega)
 rw [List.take_length] at hall
 have hrt : ∀ s ∈ l, s.1.length ≤ 400 := C5m (by rw [C9b hall]; decide)
 rw [if_neg (by rw [C9b hall]; decide)] at hE
 simp only [go_sem, A65, hz, d0]
 by_cases hm : 128 < l.length
 ·have d1 : decide ((128 : Int) < (l.length : Int)) = true := decide_eq_true (by omega)
  rw [if_pos hm] at hE
  subst hE
  simp only [go_sem, A5i, hz, d1]
  refine wS [] ?_
  simp only [go_sem, G5, exists_eq_left', Option.some.injEq]
  simp [G1, G2, B1, AV.asOwn, B3, A9, AV.isNil, J8, B6, B4, B8]
 have d1 : decide ((128 : Int) < (l.length : Int)) = false := decide_eq_false (by omega)
 rw [if_neg hm] at hE
 have bad : A4n call args tx = true → C = ([], 18) := fun h => by rw [if_pos h] at hE; exact hE.symm
 have good : A4n call args tx = false → C = if (nsR call args).all P0 = true then B3s call tx (A4a (B6o call args (nsR call args) tx) 0 (A1u call l) []) else ([], 1) := fun h => by
  rw [if_neg (by rw [h]; decide)] at hE; exact hE.symm
 clear hE
 simp only [go_sem, A5i, hz, hza, d1]
 apply D1b (A := A4n call args tx = args.any (fun n => !okN n.1 n.2))
 ·intro key
  cases d2 : decide ((args.length : Int) < least)
  ·cases d3 : decide (most < (args.length : Int))
   ·cases d4 : (tx == [])
    ·rcases Bool.eq_false_or_eq_true (!texts) with hx | hx
     ·have hb : A4n call args tx = true := by rw [hbd, d2, d3, d4, hx]; simp
      rw [bad hb]
      simp only [go_sem, hza, d2, d3, q, d4, hx, Bool.not_false]
      ((try (with_reducible refine rF ?_)); (try simp only [go_sem, hza, d2, d3, q, d4, hx, Bool.not_false]))
      refine wS [] ?_
      simp only [go_sem, G5, exists_eq_left', Option.some.injEq]
      simp [G1, G2, B1, AV.asOwn, B3, A9, AV.isNil, J8, B6, B4, B8]
     ·have hb : A4n call args tx = args.any (fun n => !okN n.1 n.2) := by rw [hbd, d2, d3, d4, hx]; simp
      simp only [go_sem, hza, d2, d3, q, d4, hx, Bool.not_false]
      exact key hb
    ·have hb : A4n call args tx = args.any (fun n => !okN n.1 n.2) := by rw [hbd, d2, d3, d4]; simp
     simp only [go_sem, hza, d2, d3, q, d4, Bool.not_true]
     exact key hb
   ·have hb : A4n call args tx = true := by rw [hbd, d2, d3]; rfl
    rw [bad hb]
    simp only [go_sem, hza, d2, d3]
    ((try (with_reducible refine rF ?_)); (try simp only [go_sem, hza, d2, d3]))
    refine wS [] ?_
    simp only [go_sem, G5, exists_eq_left', Option.some.injEq]
    simp [G1, G2, B1, AV.asOwn, B3, A9, AV.isNil, J8, B6, B4, B8]
  ·have hb : A4n call args tx = true := by rw [hbd, d2]; rfl
   rw [bad hb]
   simp only [go_sem, hza, d2]
   ((try (with_reducible refine rF ?_)); (try simp only [go_sem, hza, d2]))
   refine wS [] ?_
   simp only [go_sem, G5, exists_eq_left', Option.some.injEq]
   simp [G1, G2, B1, AV.asOwn, B3, A9, AV.isNil, J8, B6, B4, B8]
 intro hb
 refine C8 (fun i : Nat => args.length - i) (fun i => i ≤ args.length ∧ (args.take i).all (fun n => okN n.1 n.2) = true)
  (fun i => [(0, Q5 (D6 call)), (1, A0e l), (2, M6 args), (3, Q5 (D6 tx)), (15, I i)]) (fun _ => []) 0 ⟨Nat.zero_le _, rfl⟩ (sR [] []) ?_
 rintro i ⟨hi, hallN⟩
 by_cases hil : i < args.length
 ·have d0 : decide (i < args.length) = true := decide_eq_true hil
  obtain ⟨n, hx⟩ := F0 hil
  have hnv := hn n (List.mem_of_getElem? hx)
  have hgx : (args.map D7)[i]? = some [.v (.bool n.1), .v (.int .i64 n.2)] := by rw [List.getElem?_map, hx]; rfl
  have ei : IntKind.i64.wrap ((i : Int) + 1) = ((i + 1 : Nat) : Int) := by rw [A5 (by omega) (by omega)]; omega
  have hR := A24 n.1 n.2 hnv.1
  have hno : okN n.1 n.2 = false → C = ([], 18) := fun h => bad (by rw [hb, D49 (p := fun n : Num => okN n.1 n.2) hx h])
  cases ho : okN n.1 n.2
  ·rw [hno ho]
   rcases E1g ho with h1 | ⟨h1, h2⟩
   ·simp only [go_sem, Z7, hza, d0, hgx, h1]
    ((try (with_reducible refine rF ?_)); (try simp only [go_sem, Z7, hza, d0, hgx, h1]))
    refine wS [] ?_
    simp only [go_sem, G5, exists_eq_left', Option.some.injEq]
    simp [G1, G2, B1, AV.asOwn, B3, A9, AV.isNil, J8, B6, B4, B8]
   ·rw [h1, if_neg (by decide), h2] at hR
    simp only [go_sem, Z7, hza, d0, hgx, h1]
    refine A6 hR ?_
    simp only [go_sem, Bool.not_false]
    ((try (with_reducible refine rF ?_)); (try simp only [go_sem, Bool.not_false]))
    refine wS [] ?_
    simp only [go_sem, G5, exists_eq_left', Option.some.injEq]
    simp [G1, G2, B1, AV.asOwn, B3, A9, AV.isNil, J8, B6, B4, B8]
  ·obtain ⟨_, h1, h2⟩ := S9 ho
   rw [h1, if_neg (by decide), decide_eq_true h2] at hR
   simp only [go_sem, Z7, hza, d0, hgx, h1]
   refine A6 hR ?_
   simp only [go_sem, ei, Bool.not_true]
   ((try (with_reducible refine rF ?_)); (try simp only [go_sem, ei, Bool.not_true]))
   exact C3 (i + 1) (by first | omega | (simp only; omega)) ⟨by omega, B5l (p := fun n : Num => okN n.1 n.2) hx hallN ho⟩ (sR [] [])
 obtain rfl : i = args.length := by omega
 have d0a : decide (args.length < args.length) = false := decide_eq_false (by omega)
 rw [List.take_length] at hallN
 have hbf : A4n call args tx = false := by rw [hb]; exact C9b hallN
 have hC := good hbf
 have hlo := (hba (by rw [hbf]; decide)).1
 clear bad good hbd hba hb
 have hns : nsR call args = if A2o call < 3 then args else [] := rfl
 have hls : A1u call l = if A2o call = 1 ∨ A2o call = 2 ∨ (call == X7) = true then F7 (A1h call) l else l := rfl
 have hS := C5d call l (by omega) (fun s h => (hv s h).2)
 have hLm : ∀ s ∈ A1u call l, s.1.length ≤ 400 ∧ s.2.2.2.length ≤ 100000 ∧ inS s := by
  intro s hs
  have : s ∈ l := by
   rw [hls] at hs
   split at hs
   ·exact (Y1 _ _ _).1 hs
   ·exact hs
  exact ⟨hrt s this, (hv s this).2⟩
 have hLl : (A1u call l).length = l.length := by rw [hls]; split <;> first | rfl | exact O6 _ _
 have hnl : (nsR call args).length ≤ args.length := by rw [hns]; split <;> simp
 generalize hκ : A2o call = κ at *
 generalize hA : B6o call args (nsR call args) tx = f at *
 generalize hN : nsR call args = ns at *
 generalize hL : A1u call l = L at *
 simp only [go_sem, Z7, hza, d0a, B0l]
 generalize hres : A4a f 0 L [] = res at *
 apply D1b (A := C = B3s call tx res ∧ ns.all P0 = true)
 ·intro key
  refine C8 (fun i : Nat => ns.length - i) (fun i => i ≤ ns.length ∧ (ns.take i).all P0 = true)
   (fun i => [(0, Q5 (D6 call)), (1, A0e l), (2, M6 args), (3, Q5 (D6 tx)), (16, .own 999 1 0 i (decide (0 < i))), (17, I i)])
   (fun i => [(999, .row 1 (decide (0 < i)) ((ns.take i).map W6))]) 0 ⟨Nat.zero_le _, rfl⟩ ?_ ?_
  ·simp only [List.take_zero, List.map_nil, Nat.lt_irrefl, decide_false]
   exact (sR [(999, 888)] [])
  rintro i ⟨hi, hallW⟩
  have htl : ((ns.take i).map W6).length = i := by rw [List.length_map, List.length_take]; omega
  have ht2 : (ns.take i).length = i := by rw [List.length_take]; omega
  have ht3 : (i = (ns.take i).length) = True := eq_true ht2.symm
  by_cases hk3 : κ < 3
  ·have k3 : decide (κ < 3) = true := decide_eq_true hk3
   rw [if_pos hk3] at hns
   have hnsl : ns.length = args.length := by rw [hns]
   by_cases hil : i < ns.length
   ·have d0 : decide (i < args.length) = true := decide_eq_true (by omega)
    obtain ⟨n, hx⟩ := F0 hil
    have hxa : args[i]? = some n := by rw [← hns]; exact hx
    have hnv := hn n (List.mem_of_getElem? hxa)
    have hok := List.all_eq_true.1 hallN n (List.mem_of_getElem? hxa)
    have hgx : (args.map D7)[i]? = some [.v (.bool n.1), .v (.int .i64 n.2)] := by rw [List.getElem?_map, hxa]; rfl
    have ei : IntKind.i64.wrap ((i : Int) + 1) = ((i + 1 : Nat) : Int) := by rw [A5 (by omega) (by omega)]; omega
    have hW := C6o n 0 1099511627776 hnv
    rw [C7b hok] at hW
    simp only [go_sem, V0, hza, d0]
    refine A6 hK ?_
    cases hw : P0 n
    ·rw [hw] at hW
     rw [if_neg (by rw [C4y hx hw]; decide)] at hC
     subst hC
     simp only [go_sem, k3, hza, hgx]
     refine A6 hW ?_
     simp only [go_sem, Bool.not_false]
     ((try (with_reducible refine rF ?_)); (try simp only [go_sem, Bool.not_false]))
     refine wS [] ?_
     simp only [go_sem, G5, exists_eq_left', Option.some.injEq]
     simp [G1, G2, B1, AV.asOwn, B3, A9, AV.isNil, J8, B6, B4, B8]
    ·rw [hw, E0e hok hw] at hW
     have b1 : (i + 1) * 8 ≤ 2 ^ 47 := by omega
     have b2 : i + 1 < 2 ^ 47 := by omega
     have di1 : decide (0 < i + 1) = true := decide_eq_true (by omega)
     have tf : (ns.take (i + 1)).map W6 = (ns.take i).map W6 ++ [[.v (.int .i64 (n.2 / 1000000))]] := by rw [List.take_add_one, hx, List.map_append]; rfl
     simp only [go_sem, k3, hza, hgx]
     refine A6 hW ?_
     simp only [go_sem, Bool.not_true, b1, b2, ei, htl, ht2, ht3]
     ((try (with_reducible refine rF ?_)); (try simp only [go_sem, Bool.not_true, b1, b2, ei, htl, ht2, ht3]))
     ((try (with_reducible refine rF ?_)); (try simp only [go_sem, ei]))
     clear b1 b2
     refine C3 (i + 1) (by first | omega | (simp only; omega)) ⟨by omega, B5l hx hallW hw⟩ ?_
     rw [di1, tf]
     exact (sR [(999, 209)] [])
   ·obtain rfl : i = ns.length := by omega
    have d0 : decide (ns.length < args.length) = false := decide_eq_false (by omega)
    rw [List.take_length] at hallW htl ⊢
    rw [if_pos hallW] at hC
    simp only [go_sem, V0, hza, d0]
    ((try (with_reducible refine rF ?_)); (try simp only [go_sem, V0, hza, d0]))
    simp only [go_sem, A3b]
    refine A6 hK ?_
    cases j1 : decide (κ = 1)
    ·simp only [go_sem, j1]
     refine A6 hK ?_
     cases j2 : decide (κ = 2)
     ·cases jn : (call == X7)
      ·simp only [go_sem, j1, j2, qn, jn]
       ((try (with_reducible refine rF ?_)); (try simp only [go_sem, j1, j2, qn, jn]))
       refine C8 (fun x : Nat × List F4 => L.length - x.1) (fun x => x.1 ≤ L.length ∧ x.2.length ≤ x.1 ∧ A4a f x.1 (L.drop x.1) x.2 = res)
        (fun x => [(0, Q5 (D6 call)), (2, M6 args), (3, Q5 (D6 tx)), (16, .own 999 1 0 ns.length (decide (0 < ns.length))), (20, A0e L), (21, .own 998 4 0 x.2.length (decide (0 < x.2.length))), (22, I x.1)])
        (fun x => [(998, .row 4 (decide (0 < x.2.length)) (x.2.map U4)), (999, .row 1 (decide (0 < ns.length)) (ns.map W6))]) (0, []) ⟨Nat.zero_le _, Nat.le_refl _, hres⟩ ?_ (key ⟨hC, hallW⟩)
       rw [hls, if_neg (by rw [jn]; have := of_decide_eq_false j1; have := of_decide_eq_false j2; simp; omega)]
       simp only [List.map_nil, List.length_nil, Nat.lt_irrefl, decide_false]
       exact (sR [(998, 888)] [])
      ·simp only [go_sem, j1, j2, qn, jn]
       ((try (with_reducible refine rF ?_)); (try simp only [go_sem, j1, j2, qn, jn]))
       refine A6 hS ?_
       simp only [go_sem]
       refine C8 (fun x : Nat × List F4 => L.length - x.1) (fun x => x.1 ≤ L.length ∧ x.2.length ≤ x.1 ∧ A4a f x.1 (L.drop x.1) x.2 = res)
        (fun x => [(0, Q5 (D6 call)), (2, M6 args), (3, Q5 (D6 tx)), (16, .own 999 1 0 ns.length (decide (0 < ns.length))), (20, A0e L), (21, .own 998 4 0 x.2.length (decide (0 < x.2.length))), (22, I x.1)])
        (fun x => [(998, .row 4 (decide (0 < x.2.length)) (x.2.map U4)), (999, .row 1 (decide (0 < ns.length)) (ns.map W6))]) (0, []) ⟨Nat.zero_le _, Nat.le_refl _, hres⟩ ?_ (key ⟨hC, hallW⟩)
       rw [hls, if_pos (Or.inr (Or.inr jn))]
       simp only [List.map_nil, List.length_nil, Nat.lt_irrefl, decide_false]
       exact (sR [(998, 888)] [])
     ·simp only [go_sem, j1, j2]
      ((try (with_reducible refine rF ?_)); (try simp only [go_sem, j1, j2]))
      refine A6 hS ?_
      simp only [go_sem]
      refine C8 (fun x : Nat × List F4 => L.length - x.1) (fun x => x.1 ≤ L.length ∧ x.2.length ≤ x.1 ∧ A4a f x.1 (L.drop x.1) x.2 = res)
       (fun x => [(0, Q5 (D6 call)), (2, M6 args), (3, Q5 (D6 tx)), (16, .own 999 1 0 ns.length (decide (0 < ns.length))), (20, A0e L), (21, .own 998 4 0 x.2.length (decide (0 < x.2.length))), (22, I x.1)])
       (fun x => [(998, .row 4 (decide (0 < x.2.length)) (x.2.map U4)), (999, .row 1 (decide (0 < ns.length)) (ns.map W6))]) (0, []) ⟨Nat.zero_le _, Nat.le_refl _, hres⟩ ?_ (key ⟨hC, hallW⟩)
      rw [hls, if_pos (Or.inr (Or.inl (of_decide_eq_true j2)))]
      simp only [List.map_nil, List.length_nil, Nat.lt_irrefl, decide_false]
      exact (sR [(998, 888)] [])
    ·simp only [go_sem, j1]
     ((try (with_reducible refine rF ?_)); (try simp only [go_sem, j1]))
     refine A6 hS ?_
     simp only [go_sem]
     refine C8 (fun x : Nat × List F4 => L.length - x.1) (fun x => x.1 ≤ L.length ∧ x.2.length ≤ x.1 ∧ A4a f x.1 (L.drop x.1) x.2 = res)
      (fun x => [(0, Q5 (D6 call)), (2, M6 args), (3, Q5 (D6 tx)), (16, .own 999 1 0 ns.length (decide (0 < ns.length))), (20, A0e L), (21, .own 998 4 0 x.2.length (decide (0 < x.2.length))), (22, I x.1)])
      (fun x => [(998, .row 4 (decide (0 < x.2.length)) (x.2.map U4)), (999, .row 1 (decide (0 < ns.length)) (ns.map W6))]) (0, []) ⟨Nat.zero_le _, Nat.le_refl _, hres⟩ ?_ (key ⟨hC, hallW⟩)
     rw [hls, if_pos (Or.inl (of_decide_eq_true j1))]
     simp only [List.map_nil, List.length_nil, Nat.lt_irrefl, decide_false]
     exact (sR [(998, 888)] [])
  ·have k3 : decide (κ < 3) = false := decide_eq_false hk3
   rw [if_neg hk3] at hns
   have hi0 : i = ns.length := by rw [hns] at hi ⊢; simp at hi ⊢; exact hi
   subst hi0
   rw [List.take_length] at hallW htl ⊢
   rw [if_pos hallW] at hC
   by_cases h0 : ns.length < args.length
   ·have d0 : decide (ns.length < args.length) = true := decide_eq_true h0
    simp only [go_sem, V0, hza, d0]
    refine A6 hK ?_
    simp only [go_sem, k3]
    ((try (with_reducible refine rF ?_)); (try simp only [go_sem, k3]))
    simp only [go_sem, A3b]
    refine A6 hK ?_
    cases j1 : decide (κ = 1)
    ·simp only [go_sem, j1]
     refine A6 hK ?_
     cases j2 : decide (κ = 2)
     ·cases jn : (call == X7)
      ·simp only [go_sem, j1, j2, qn, jn]
       ((try (with_reducible refine rF ?_)); (try simp only [go_sem, j1, j2, qn, jn]))
       refine C8 (fun x : Nat × List F4 => L.length - x.1) (fun x => x.1 ≤ L.length ∧ x.2.length ≤ x.1 ∧ A4a f x.1 (L.drop x.1) x.2 = res)
        (fun x => [(0, Q5 (D6 call)), (2, M6 args), (3, Q5 (D6 tx)), (16, .own 999 1 0 ns.length (decide (0 < ns.length))), (20, A0e L), (21, .own 998 4 0 x.2.length (decide (0 < x.2.length))), (22, I x.1)])
        (fun x => [(998, .row 4 (decide (0 < x.2.length)) (x.2.map U4)), (999, .row 1 (decide (0 < ns.length)) (ns.map W6))]) (0, []) ⟨Nat.zero_le _, Nat.le_refl _, hres⟩ ?_ (key ⟨hC, hallW⟩)
       rw [hls, if_neg (by rw [jn]; have := of_decide_eq_false j1; have := of_decide_eq_false j2; simp; omega)]
       simp only [List.map_nil, List.length_nil, Nat.lt_irrefl, decide_false]
       exact (sR [(998, 888)] [])
      ·simp only [go_sem, j1, j2, qn, jn]
       ((try (with_reducible refine rF ?_)); (try simp only [go_sem, j1, j2, qn, jn]))
       refine A6 hS ?_
       simp only [go_sem]
       refine C8 (fun x : Nat × List F4 => L.length - x.1) (fun x => x.1 ≤ L.length ∧ x.2.length ≤ x.1 ∧ A4a f x.1 (L.drop x.1) x.2 = res)
        (fun x => [(0, Q5 (D6 call)), (2, M6 args), (3, Q5 (D6 tx)), (16, .own 999 1 0 ns.length (decide (0 < ns.length))), (20, A0e L), (21, .own 998 4 0 x.2.length (decide (0 < x.2.length))), (22, I x.1)])
        (fun x => [(998, .row 4 (decide (0 < x.2.length)) (x.2.map U4)), (999, .row 1 (decide (0 < ns.length)) (ns.map W6))]) (0, []) ⟨Nat.zero_le _, Nat.le_refl _, hres⟩ ?_ (key ⟨hC, hallW⟩)
       rw [hls, if_pos (Or.inr (Or.inr jn))]
       simp only [List.map_nil, List.length_nil, Nat.lt_irrefl, decide_false]
       exact (sR [(998, 888)] [])
     ·simp only [go_sem, j1, j2]
      ((try (with_reducible refine rF ?_)); (try simp only [go_sem, j1, j2]))
      refine A6 hS ?_
      simp only [go_sem]
      refine C8 (fun x : Nat × List F4 => L.length - x.1) (fun x => x.1 ≤ L.length ∧ x.2.length ≤ x.1 ∧ A4a f x.1 (L.drop x.1) x.2 = res)
       (fun x => [(0, Q5 (D6 call)), (2, M6 args), (3, Q5 (D6 tx)), (16, .own 999 1 0 ns.length (decide (0 < ns.length))), (20, A0e L), (21, .own 998 4 0 x.2.length (decide (0 < x.2.length))), (22, I x.1)])
       (fun x => [(998, .row 4 (decide (0 < x.2.length)) (x.2.map U4)), (999, .row 1 (decide (0 < ns.length)) (ns.map W6))]) (0, []) ⟨Nat.zero_le _, Nat.le_refl _, hres⟩ ?_ (key ⟨hC, hallW⟩)
      rw [hls, if_pos (Or.inr (Or.inl (of_decide_eq_true j2)))]
      simp only [List.map_nil, List.length_nil, Nat.lt_irrefl, decide_false]
      exact (sR [(998, 888)] [])
    ·simp only [go_sem, j1]
     ((try (with_reducible refine rF ?_)); (try simp only [go_sem, j1]))
     refine A6 hS ?_
     simp only [go_sem]
     refine C8 (fun x : Nat × List F4 => L.length - x.1) (fun x => x.1 ≤ L.length ∧ x.2.length ≤ x.1 ∧ A4a f x.1 (L.drop x.1) x.2 = res)
      (fun x => [(0, Q5 (D6 call)), (2, M6 args), (3, Q5 (D6 tx)), (16, .own 999 1 0 ns.length (decide (0 < ns.length))), (20, A0e L), (21, .own 998 4 0 x.2.length (decide (0 < x.2.length))), (22, I x.1)])
      (fun x => [(998, .row 4 (decide (0 < x.2.length)) (x.2.map U4)), (999, .row 1 (decide (0 < ns.length)) (ns.map W6))]) (0, []) ⟨Nat.zero_le _, Nat.le_refl _, hres⟩ ?_ (key ⟨hC, hallW⟩)
     rw [hls, if_pos (Or.inl (of_decide_eq_true j1))]
     simp only [List.map_nil, List.length_nil, Nat.lt_irrefl, decide_false]
     exact (sR [(998, 888)] [])
   ·have d0 : decide (ns.length < args.length) = false := decide_eq_false h0
    simp only [go_sem, V0, hza, d0]
    ((try (with_reducible refine rF ?_)); (try simp only [go_sem, V0, hza, d0]))
    simp only [go_sem, A3b]
    refine A6 hK ?_
    cases j1 : decide (κ = 1)
    ·simp only [go_sem, j1]
     refine A6 hK ?_
     cases j2 : decide (κ = 2)
     ·cases jn : (call == X7)
      ·simp only [go_sem, j1, j2, qn, jn]
       ((try (with_reducible refine rF ?_)); (try simp only [go_sem, j1, j2, qn, jn]))
       refine C8 (fun x : Nat × List F4 => L.length - x.1) (fun x => x.1 ≤ L.length ∧ x.2.length ≤ x.1 ∧ A4a f x.1 (L.drop x.1) x.2 = res)
        (fun x => [(0, Q5 (D6 call)), (2, M6 args), (3, Q5 (D6 tx)), (16, .own 999 1 0 ns.length (decide (0 < ns.length))), (20, A0e L), (21, .own 998 4 0 x.2.length (decide (0 < x.2.length))), (22, I x.1)])
        (fun x => [(998, .row 4 (decide (0 < x.2.length)) (x.2.map U4)), (999, .row 1 (decide (0 < ns.length)) (ns.map W6))]) (0, []) ⟨Nat.zero_le _, Nat.le_refl _, hres⟩ ?_ (key ⟨hC, hallW⟩)
       rw [hls, if_neg (by rw [jn]; have := of_decide_eq_false j1; have := of_decide_eq_false j2; simp; omega)]
       simp only [List.map_nil, List.length_nil, Nat.lt_irrefl, decide_false]
       exact (sR [(998, 888)] [])
      ·simp only [go_sem, j1, j2, qn, jn]
       ((try (with_reducible refine rF ?_)); (try simp only [go_sem, j1, j2, qn, jn]))
       refine A6 hS ?_
       simp only [go_sem]
       refine C8 (fun x : Nat × List F4 => L.length - x.1) (fun x => x.1 ≤ L.length ∧ x.2.length ≤ x.1 ∧ A4a f x.1 (L.drop x.1) x.2 = res)
        (fun x => [(0, Q5 (D6 call)), (2, M6 args), (3, Q5 (D6 tx)), (16, .own 999 1 0 ns.length (decide (0 < ns.length))), (20, A0e L), (21, .own 998 4 0 x.2.length (decide (0 < x.2.length))), (22, I x.1)])
        (fun x => [(998, .row 4 (decide (0 < x.2.length)) (x.2.map U4)), (999, .row 1 (decide (0 < ns.length)) (ns.map W6))]) (0, []) ⟨Nat.zero_le _, Nat.le_refl _, hres⟩ ?_ (key ⟨hC, hallW⟩)
       rw [hls, if_pos (Or.inr (Or.inr jn))]
       simp only [List.map_nil, List.length_nil, Nat.lt_irrefl, decide_false]
       exact (sR [(998, 888)] [])
     ·simp only [go_sem, j1, j2]
      ((try (with_reducible refine rF ?_)); (try simp only [go_sem, j1, j2]))
      refine A6 hS ?_
      simp only [go_sem]
      refine C8 (fun x : Nat × List F4 => L.length - x.1) (fun x => x.1 ≤ L.length ∧ x.2.length ≤ x.1 ∧ A4a f x.1 (L.drop x.1) x.2 = res)
       (fun x => [(0, Q5 (D6 call)), (2, M6 args), (3, Q5 (D6 tx)), (16, .own 999 1 0 ns.length (decide (0 < ns.length))), (20, A0e L), (21, .own 998 4 0 x.2.length (decide (0 < x.2.length))), (22, I x.1)])
       (fun x => [(998, .row 4 (decide (0 < x.2.length)) (x.2.map U4)), (999, .row 1 (decide (0 < ns.length)) (ns.map W6))]) (0, []) ⟨Nat.zero_le _, Nat.le_refl _, hres⟩ ?_ (key ⟨hC, hallW⟩)
      rw [hls, if_pos (Or.inr (Or.inl (of_decide_eq_true j2)))]
      simp only [List.map_nil, List.length_nil, Nat.lt_irrefl, decide_false]
      exact (sR [(998, 888)] [])
    ·simp only [go_sem, j1]
     ((try (with_reducible refine rF ?_)); (try simp only [go_sem, j1]))
     refine A6 hS ?_
     simp only [go_sem]
     refine C8 (fun x : Nat × List F4 => L.length - x.1) (fun x => x.1 ≤ L.length ∧ x.2.length ≤ x.1 ∧ A4a f x.1 (L.drop x.1) x.2 = res)
      (fun x => [(0, Q5 (D6 call)), (2, M6 args), (3, Q5 (D6 tx)), (16, .own 999 1 0 ns.length (decide (0 < ns.length))), (20, A0e L), (21, .own 998 4 0 x.2.length (decide (0 < x.2.length))), (22, I x.1)])
      (fun x => [(998, .row 4 (decide (0 < x.2.length)) (x.2.map U4)), (999, .row 1 (decide (0 < ns.length)) (ns.map W6))]) (0, []) ⟨Nat.zero_le _, Nat.le_refl _, hres⟩ ?_ (key ⟨hC, hallW⟩)
     rw [hls, if_pos (Or.inl (of_decide_eq_true j1))]
     simp only [List.map_nil, List.length_nil, Nat.lt_irrefl, decide_false]
     exact (sR [(998, 888)] [])
 rintro ⟨hC2, hall2⟩
 clear hC
 rintro ⟨i, out⟩ ⟨hi, hol, hr⟩
 simp only at hi hol hr
 have hzL : (L.map U4).length = L.length := by simp
 have hzo : (out.map U4).length = out.length := by simp
 by_cases hil : i < L.length
 ·have d0 : decide (i < L.length) = true := decide_eq_true hil
  obtain ⟨x, hx⟩ := F0 hil
  have hxv := hLm x (List.mem_of_getElem? hx)
  have hgx : (L.map U4)[i]? = some [.v (.string (D6 x.1)), .v (.int .i64 x.2.1), .v (.int .i64 x.2.2.1), .sl 2 (x.2.2.2.map D7)] := by rw [List.getElem?_map, hx]; rfl
  have ei : IntKind.i64.wrap ((i : Int) + 1) = ((i + 1 : Nat) : Int) := by rw [A5 (by omega) (by omega)]; omega
  have hM := A72 call x hxv.2.1 hxv.2.2
  have hrtm := D4t (w := A2k call) hxv.2.2
  have hlz : decide (400 < x.1.length) = false := decide_eq_false (by omega)
  rw [A05 hx, A4a] at hr
  simp only [go_sem, A61, hzL, d0, hgx]
  refine A6 (C8j x hxv.2.1) ?_
  simp only [go_sem]
  refine A6 hM ?_
  simp only [go_sem]
  refine A6 hK ?_
  have hb1 : (out.length + 1) * 56 ≤ 2 ^ 47 := by omega
  have hb2 : out.length + 1 < 2 ^ 47 := by omega
  have hdi : decide (0 < out.length + 1) = true := decide_eq_true (by omega)
  have hsz : f i x = szR x.1 (f i x).2.1 → f i x = (0, ((f i x).2.1, x.1)) := fun h => by rw [h, A90 hxv.1]
  have hl4 : decide ((400 : Int) < (x.1.length : Int)) = false := decide_eq_false (by omega)
  have hκ34 : κ = 3 ∨ κ = 4 → ∃ a0 ar, args = a0 :: ar := by
   intro h
   have h1 := hone rfl (Or.inl (E17 (by rw [← hke]; exact h)))
   cases args with
   | nil => simp at hlo; omega
   | cons a0 ar => exact ⟨a0, ar, rfl⟩
  cases j3 : decide (κ = 3)
  ·cases j4 : decide (κ = 4)
   ·have hof1 : f i x = if (call == A8q || call == B42) = true then (if (F6 tx).2 = 0 then szR x.1 (q3M call (F6 tx).1.1 (F6 tx).1.2.1 (F6 tx).1.2.2 x) else ((F6 tx).2, (false, []))) else if (call == A01) = true then szR tx true else if (call == A4k) = true then szR (V8 x.1 ns) true else szR x.1 (C2k ns i) := by
     rw [← hA]; unfold B6o; rw [hκ, if_neg (of_decide_eq_false j3), if_neg (of_decide_eq_false j4)]
    have hMt := B9f (D6 tx) (D6 x.1) (by rw [C9]; omega)
    rw [X2] at hMt
    cases hg : (call == A8q)
    ·cases he : (call == B42)
     ·rw [if_neg (by rw [hg, he]; decide)] at hof1
      cases hal : (call == A01)
      ·rw [if_neg (by rw [hal]; decide)] at hof1
       cases hno : (call == A4k)
       ·rw [if_neg (by rw [hno]; decide), A90 hxv.1] at hof1
        simp only [go_sem, j3]
        refine A6 hK ?_
        simp only [go_sem, j3, j4, qg, hg, qe, he, qa, hal, qo, hno]
        ((try (with_reducible refine rF ?_)); (try simp only [go_sem, j3, j4, qg, hg, qe, he, qa, hal, qo, hno]))
        rw [hof1, if_pos rfl] at hr
        simp only at hr
        by_cases hn0 : ns = []
        ·have dz : decide ((0 : Int) < (ns.length : Int)) = false := decide_eq_false (by rw [hn0]; decide)
         have hu : C2k ns i = true := by rw [hn0]; rfl
         rw [hu] at hr
         simp only [if_true] at hr
         simp only [go_sem, dz]
         have hse : U4 (x.1, x.2) = [.v (.string (D6 x.1)), .v (.int .i64 x.2.1), .v (.int .i64 x.2.2.1), .sl 2 (x.2.2.2.map D7)] := rfl
         simp only [go_sem, C5, C6, C9, hl4, hlz, ei, hb1, hb2, hzo]
         ((try (with_reducible refine rF ?_)); (try simp only [go_sem, C5, C6, C9, hl4, hlz, ei, hb1, hb2, hzo]))
         clear hb1 hb2
         refine C3 (i + 1, out ++ [(x.1, x.2)]) (by first | omega | (simp only; omega)) ⟨by omega, by simp; omega, hr⟩ ?_
         simp only [List.length_append, List.length_cons, List.length_nil, Nat.zero_add, hdi, List.map_append, List.map_cons, List.map_nil, hse]
         exact (sR [(998, 359)] [])
        ·have hlp : 0 < ns.length := List.length_pos_iff.2 hn0
         have dz : decide ((0 : Int) < (ns.length : Int)) = true := decide_eq_true (by omega)
         obtain ⟨n0, hg0⟩ := F0 hlp
         have hgc : (ns.map W6)[0]? = some [.v (.int .i64 (n0.2 / 1000000))] := by rw [List.getElem?_map, hg0]; rfl
         have c1 : ((0 : Int) < (ns.length : Int)) = True := eq_true (by omega)
         have hu : decide ((i : Int) < n0.2 / 1000000) = C2k ns i := by
          cases ns with
          | nil => exact absurd rfl hn0
          | cons a as' => simp at hg0; subst hg0; rfl
         have hfl : decide (0 < ns.length) = true := decide_eq_true hlp
         simp only [go_sem, dz, hgc, c1, hu, hfl]
         ((try (with_reducible refine rF ?_)); (try simp only [go_sem, dz, hgc, c1, hu, hfl]))
         cases hkp : C2k ns i
         ·rw [hkp] at hr
          simp only [Bool.false_eq_true, if_false] at hr
          simp only [go_sem, C5, C6, C9, hl4, hlz, ei]
          ((try (with_reducible refine rF ?_)); (try simp only [go_sem, C5, C6, C9, hl4, hlz, ei]))
          clear hb1 hb2
          refine C3 (i + 1, out) (by first | omega | (simp only; omega)) ⟨by omega, by simp only; omega, hr⟩ ?_
          (try simp only [hfl])
          exact (sR [] [])
         ·rw [hkp] at hr
          simp only [if_true] at hr
          have hse : U4 (x.1, x.2) = [.v (.string (D6 x.1)), .v (.int .i64 x.2.1), .v (.int .i64 x.2.2.1), .sl 2 (x.2.2.2.map D7)] := rfl
          simp only [go_sem, C5, C6, C9, hl4, hlz, ei, hb1, hb2, hzo]
          ((try (with_reducible refine rF ?_)); (try simp only [go_sem, C5, C6, C9, hl4, hlz, ei, hb1, hb2, hzo]))
          clear hb1 hb2
          refine C3 (i + 1, out ++ [(x.1, x.2)]) (by first | omega | (simp only; omega)) ⟨by omega, by simp; omega, hr⟩ ?_
          simp only [List.length_append, List.length_cons, List.length_nil, Nat.zero_add, hdi, List.map_append, List.map_cons, List.map_nil, hse]
          (try simp only [hfl])
          exact (sR [(998, 359)] [])
       ·rw [if_pos (by rw [hno])] at hof1
        simp only [go_sem, j3]
        refine A6 hK ?_
        simp only [go_sem, j3, j4, qg, hg, qe, he, qa, hal, qo, hno]
        ((try (with_reducible refine rF ?_)); (try simp only [go_sem, j3, j4, qg, hg, qe, he, qa, hal, qo, hno]))
        generalize hP : V8 x.1 ns = PF at *
        refine C8 (fun k : Nat => ns.length - k) (fun k => k ≤ ns.length)
         (fun k => [(0, Q5 (D6 call)), (2, M6 args), (3, Q5 (D6 tx)), (16, .own 999 1 0 ns.length (decide (0 < ns.length))), (20, A0e L), (21, .own 998 4 0 out.length (decide (0 < out.length))), (22, I i), (23, .ptr 243 0), (25, Bo true), (28, Q5 (D6 (V8 x.1 (ns.take k)))), (29, I k)])
         (fun k => [(243, .box [Q5 (D6 x.1), I x.2.1, I x.2.2.1, M6 x.2.2.2]), (998, .row 4 (decide (0 < out.length)) (out.map U4)), (999, .row 1 (decide (0 < ns.length)) (ns.map W6))]) 0 (Nat.zero_le _) ?_ ?_
        ·rw [show D6 (V8 x.1 (ns.take 0)) = bs [] from rfl]
         exact (sR [] [])
        rintro k hk
        have hzn : (ns.map W6).length = ns.length := by simp
        by_cases hkl : k < ns.length
        ·have dk : decide (k < ns.length) = true := decide_eq_true hkl
         have hfl : decide (0 < ns.length) = true := decide_eq_true (by omega)
         have dk2 : decide ((k : Int) < (ns.length : Int)) = true := decide_eq_true (by omega)
         have c1 : ((k : Int) < (ns.length : Int)) = True := eq_true (by omega)
         obtain ⟨n, hn0⟩ := F0 hkl
         have hw := List.all_eq_true.1 hall2 n (List.mem_of_getElem? hn0)
         unfold P0 at hw
         simp only [Bool.and_eq_true, decide_eq_true_eq] at hw
         obtain ⟨w1, w2, w3⟩ := hw
         have ek2 : n.2 / 1000000 = ((A8g n : Nat) : Int) := by unfold A8g; omega
         have hgc : (ns.map W6)[k]? = some [.v (.int .i64 ((A8g n : Nat) : Int))] := by rw [List.getElem?_map, hn0, ← ek2]; rfl
         have ek : IntKind.i64.wrap ((k : Int) + 1) = ((k + 1 : Nat) : Int) := by rw [A5 (by omega) (by omega)]; omega
         have hp := C6v x.1 (A8g n) (by omega) (by omega)
         have hpl := C1f x.1 (A8g n)
         have hPl := D2o x.1 (ns.take k) (by omega)
         have htk : ns.take (k + 1) = ns.take k ++ [n] := by rw [List.take_add_one, hn0]; rfl
         have ht2 : (ns.take k).length = k := by rw [List.length_take]; omega
         rw [ht2] at hPl
         have hps := D0p x.1 (ns.take k) n
         rw [← htk] at hps
         generalize Z3 x.1 (A8g n) = pc at *
         by_cases hk0 : k = 0
         ·subst hk0
          rw [if_pos (by simp)] at hps
          have e0 : V8 x.1 (ns.take 0) = [] := rfl
          have z0 : decide (0 < 0) = false := rfl
          have z1 : decide ((0 : Int) < ((0 : Nat) : Int)) = false := rfl
          have z2 : decide ((0 : Int) < 0) = false := rfl
          have qd := E1o [] pc (by simp; omega)
          rw [List.nil_append] at qd
          rw [e0]
          simp only [go_sem, A3a, hzn, dk, dk2, z0, z1, z2]
          simp only [go_sem, hgc, c1, hfl]
          refine A6 hp ?_
          simp only [go_sem, qd]
          ((try (with_reducible refine rF ?_)); (try simp only [go_sem, qd, ek]))
          rw [← hps]
          refine C3 (0 + 1) (by first | omega | (simp only; omega)) (by omega) ?_
          (try simp only [hfl])
          exact (sR [] [])
         ·rw [if_neg (by rw [List.eq_nil_iff_length_eq_zero, ht2]; exact hk0)] at hps
          have z0 : decide (0 < k) = true := decide_eq_true (by omega)
          have z1 : decide ((0 : Int) < (k : Int)) = true := decide_eq_true (by omega)
          have qd : S2 .add (D6 (V8 x.1 (ns.take k))) (bs [46]) = some (.string (D6 (V8 x.1 (ns.take k) ++ [46]))) := E1o _ [46] (by simp; omega)
          have qd2 := E1o (V8 x.1 (ns.take k) ++ [46]) pc (by simp; omega)
          rw [List.append_assoc, ← hps] at qd2
          simp only [go_sem, A3a, hzn, dk, dk2, z0, z1, qd]
          simp only [go_sem, hgc, c1, hfl]
          refine A6 hp ?_
          simp only [go_sem, qd2]
          ((try (with_reducible refine rF ?_)); (try simp only [go_sem, qd2, ek]))
          refine C3 (k + 1) (by first | omega | (simp only; omega)) (by omega) ?_
          (try simp only [hfl])
          exact (sR [] [])
        obtain rfl : k = ns.length := by omega
        have dk : decide (ns.length < ns.length) = false := decide_eq_false (by omega)
        rw [List.take_length, hP]
        simp only [go_sem, A3a, hzn, dk, B27]
        by_cases h4 : 400 < (PF).length
        ·have hof : f i x = (20, (false, [])) := by rw [hof1]; unfold szR; rw [if_pos h4]
         rw [hof, if_neg (by decide)] at hr
         subst hr
         have e2 : C = ([], 20) := by rw [hC2]; unfold B3s; rw [if_neg (fun h => absurd h.1 (by decide))]
         have g4 : decide ((400 : Int) < ((PF).length : Int)) = true := decide_eq_true (by omega)
         have g5 : decide (400 < (PF).length) = true := decide_eq_true h4
         rw [e2]
         simp only [go_sem, C5, C9, g4, g5]
         refine wS [] ?_
         simp only [go_sem, G5, exists_eq_left', Option.some.injEq]
         simp [G1, G2, B1, AV.asOwn, B3, A9, AV.isNil, J8, B6, B4, B8]
        ·have hof : f i x = (0, (true, PF)) := by rw [hof1]; exact A90 (by omega)
         rw [hof, if_pos rfl] at hr
         simp only [if_true] at hr
         have hl4 : decide ((400 : Int) < ((PF).length : Int)) = false := decide_eq_false (by omega)
         have hlz : decide (400 < (PF).length) = false := decide_eq_false h4
         have hse : U4 (PF, x.2) = [.v (.string (D6 PF)), .v (.int .i64 x.2.1), .v (.int .i64 x.2.2.1), .sl 2 (x.2.2.2.map D7)] := rfl
         simp only [go_sem, C5, C6, C9, hl4, hlz, ei, hb1, hb2, hzo]
         ((try (with_reducible refine rF ?_)); (try simp only [go_sem, C5, C6, C9, hl4, hlz, ei, hb1, hb2, hzo]))
         clear hb1 hb2
         refine C3 (i + 1, out ++ [(PF, x.2)]) (by first | omega | (simp only; omega)) ⟨by omega, by simp; omega, hr⟩ ?_
         simp only [List.length_append, List.length_cons, List.length_nil, Nat.zero_add, hdi, List.map_append, List.map_cons, List.map_nil, hse]
         exact (sR [(998, 359)] [])
      ·rw [if_pos (by rw [hal])] at hof1
       simp only [go_sem, j3]
       refine A6 hK ?_
       simp only [go_sem, j3, j4, qg, hg, qe, he, qa, hal]
       ((try (with_reducible refine rF ?_)); (try simp only [go_sem, j3, j4, qg, hg, qe, he, qa, hal]))
       by_cases h4 : 400 < (tx).length
       ·have hof : f i x = (20, (false, [])) := by rw [hof1]; unfold szR; rw [if_pos h4]
        rw [hof, if_neg (by decide)] at hr
        subst hr
        have e2 : C = ([], 20) := by rw [hC2]; unfold B3s; rw [if_neg (fun h => absurd h.1 (by decide))]
        have g4 : decide ((400 : Int) < ((tx).length : Int)) = true := decide_eq_true (by omega)
        have g5 : decide (400 < (tx).length) = true := decide_eq_true h4
        rw [e2]
        simp only [go_sem, C5, C9, g4, g5]
        refine wS [] ?_
        simp only [go_sem, G5, exists_eq_left', Option.some.injEq]
        simp [G1, G2, B1, AV.asOwn, B3, A9, AV.isNil, J8, B6, B4, B8]
       ·have hof : f i x = (0, (true, tx)) := by rw [hof1]; exact A90 (by omega)
        rw [hof, if_pos rfl] at hr
        simp only [if_true] at hr
        have hl4 : decide ((400 : Int) < ((tx).length : Int)) = false := decide_eq_false (by omega)
        have hlz : decide (400 < (tx).length) = false := decide_eq_false h4
        have hse : U4 (tx, x.2) = [.v (.string (D6 tx)), .v (.int .i64 x.2.1), .v (.int .i64 x.2.2.1), .sl 2 (x.2.2.2.map D7)] := rfl
        simp only [go_sem, C5, C6, C9, hl4, hlz, ei, hb1, hb2, hzo]
        ((try (with_reducible refine rF ?_)); (try simp only [go_sem, C5, C6, C9, hl4, hlz, ei, hb1, hb2, hzo]))
        clear hb1 hb2
        refine C3 (i + 1, out ++ [(tx, x.2)]) (by first | omega | (simp only; omega)) ⟨by omega, by simp; omega, hr⟩ ?_
        simp only [List.length_append, List.length_cons, List.length_nil, Nat.zero_add, hdi, List.map_append, List.map_cons, List.map_nil, hse]
        exact (sR [(998, 359)] [])
     ·rw [if_pos (by rw [hg, he]; rfl)] at hof1
      cases h0 : decide ((F6 tx).2 = 0)
      ·have h0' := of_decide_eq_false h0
       rw [if_neg h0'] at hof1 hMt
       rw [hof1, if_neg h0'] at hr
       subst hr
       have e2 : C = ([], (F6 tx).2) := by rw [hC2]; unfold B3s; rw [if_neg (fun h => h0' h.1)]
       rw [e2]
       simp only [go_sem, j3]
       refine A6 hK ?_
       simp only [go_sem, j3, j4, qg, hg, qe, he]
       ((try (with_reducible refine rF ?_)); (try simp only [go_sem, j3, j4, qg, hg, qe, he]))
       refine A6 hMt ?_
       simp only [go_sem, h0, Bool.not_false]
       refine wS [] ?_
       simp only [go_sem, G5, exists_eq_left', Option.some.injEq]
       simp [G1, G2, B1, AV.asOwn, B3, A9, AV.isNil, J8, B6, B4, B8]
      ·have h0' := of_decide_eq_true h0
       rw [if_pos h0'] at hof1 hMt
       rw [A90 hxv.1] at hof1
       rw [hof1, if_pos rfl] at hr
       simp only at hr
       have hq3 : (B2z (F6 tx).1.1 (F6 tx).1.2.1 (F6 tx).1.2.2 (D6 x.1).data.toList == false) = q3M call (F6 tx).1.1 (F6 tx).1.2.1 (F6 tx).1.2.2 x := by unfold q3M; rw [hg]
       simp only [go_sem, j3]
       refine A6 hK ?_
       simp only [go_sem, j3, j4, qg, hg, qe, he]
       ((try (with_reducible refine rF ?_)); (try simp only [go_sem, j3, j4, qg, hg, qe, he]))
       refine A6 hMt ?_
       simp only [go_sem, h0, Bool.not_true, qg, hg]
       ((try (with_reducible refine rF ?_)); (try simp only [go_sem, h0, Bool.not_true, qg, hg]))
       rw [hq3]
       cases hkp : q3M call (F6 tx).1.1 (F6 tx).1.2.1 (F6 tx).1.2.2 x
       ·rw [hkp] at hr
        simp only [Bool.false_eq_true, if_false] at hr
        simp only [go_sem, C5, C6, C9, hl4, hlz, ei]
        ((try (with_reducible refine rF ?_)); (try simp only [go_sem, C5, C6, C9, hl4, hlz, ei]))
        clear hb1 hb2
        exact C3 (i + 1, out) (by first | omega | (simp only; omega)) ⟨by omega, by simp only; omega, hr⟩ (sR [] [])
       ·rw [hkp] at hr
        simp only [if_true] at hr
        have hse : U4 (x.1, x.2) = [.v (.string (D6 x.1)), .v (.int .i64 x.2.1), .v (.int .i64 x.2.2.1), .sl 2 (x.2.2.2.map D7)] := rfl
        simp only [go_sem, C5, C6, C9, hl4, hlz, ei, hb1, hb2, hzo]
        ((try (with_reducible refine rF ?_)); (try simp only [go_sem, C5, C6, C9, hl4, hlz, ei, hb1, hb2, hzo]))
        clear hb1 hb2
        refine C3 (i + 1, out ++ [(x.1, x.2)]) (by first | omega | (simp only; omega)) ⟨by omega, by simp; omega, hr⟩ ?_
        simp only [List.length_append, List.length_cons, List.length_nil, Nat.zero_add, hdi, List.map_append, List.map_cons, List.map_nil, hse]
        exact (sR [(998, 359)] [])
    ·rw [if_pos (by rw [hg]; rfl)] at hof1
     cases h0 : decide ((F6 tx).2 = 0)
     ·have h0' := of_decide_eq_false h0
      rw [if_neg h0'] at hof1 hMt
      rw [hof1, if_neg h0'] at hr
      subst hr
      have e2 : C = ([], (F6 tx).2) := by rw [hC2]; unfold B3s; rw [if_neg (fun h => h0' h.1)]
      rw [e2]
      simp only [go_sem, j3]
      refine A6 hK ?_
      simp only [go_sem, j3, j4, qg, hg]
      ((try (with_reducible refine rF ?_)); (try simp only [go_sem, j3, j4, qg, hg]))
      refine A6 hMt ?_
      simp only [go_sem, h0, Bool.not_false]
      refine wS [] ?_
      simp only [go_sem, G5, exists_eq_left', Option.some.injEq]
      simp [G1, G2, B1, AV.asOwn, B3, A9, AV.isNil, J8, B6, B4, B8]
     ·have h0' := of_decide_eq_true h0
      rw [if_pos h0'] at hof1 hMt
      rw [A90 hxv.1] at hof1
      rw [hof1, if_pos rfl] at hr
      simp only at hr
      have hq3 : (B2z (F6 tx).1.1 (F6 tx).1.2.1 (F6 tx).1.2.2 (D6 x.1).data.toList == true) = q3M call (F6 tx).1.1 (F6 tx).1.2.1 (F6 tx).1.2.2 x := by unfold q3M; rw [hg]
      simp only [go_sem, j3]
      refine A6 hK ?_
      simp only [go_sem, j3, j4, qg, hg]
      ((try (with_reducible refine rF ?_)); (try simp only [go_sem, j3, j4, qg, hg]))
      refine A6 hMt ?_
      simp only [go_sem, h0, Bool.not_true, qg, hg]
      ((try (with_reducible refine rF ?_)); (try simp only [go_sem, h0, Bool.not_true, qg, hg]))
      rw [hq3]
      cases hkp : q3M call (F6 tx).1.1 (F6 tx).1.2.1 (F6 tx).1.2.2 x
      ·rw [hkp] at hr
       simp only [Bool.false_eq_true, if_false] at hr
       simp only [go_sem, C5, C6, C9, hl4, hlz, ei]
       ((try (with_reducible refine rF ?_)); (try simp only [go_sem, C5, C6, C9, hl4, hlz, ei]))
       clear hb1 hb2
       exact C3 (i + 1, out) (by first | omega | (simp only; omega)) ⟨by omega, by simp only; omega, hr⟩ (sR [] [])
      ·rw [hkp] at hr
       simp only [if_true] at hr
       have hse : U4 (x.1, x.2) = [.v (.string (D6 x.1)), .v (.int .i64 x.2.1), .v (.int .i64 x.2.2.1), .sl 2 (x.2.2.2.map D7)] := rfl
       simp only [go_sem, C5, C6, C9, hl4, hlz, ei, hb1, hb2, hzo]
       ((try (with_reducible refine rF ?_)); (try simp only [go_sem, C5, C6, C9, hl4, hlz, ei, hb1, hb2, hzo]))
       clear hb1 hb2
       refine C3 (i + 1, out ++ [(x.1, x.2)]) (by first | omega | (simp only; omega)) ⟨by omega, by simp; omega, hr⟩ ?_
       simp only [List.length_append, List.length_cons, List.length_nil, Nat.zero_add, hdi, List.map_append, List.map_cons, List.map_nil, hse]
       exact (sR [(998, 359)] [])
   ·obtain ⟨a0, ar, rfl⟩ := hκ34 (Or.inr (of_decide_eq_true j4))
    have hna := hn a0 (by simp)
    have hC1 := C27 (T6 (A2k call) x.2.2.2).isNone a0.1 ((T6 (A2k call) x.2.2.2).getD 0) a0.2 hrtm.lo hna.1
    have hx0 : D7 a0 = [.v (.bool a0.1), .v (.int .i64 a0.2)] := rfl
    have hof : f i x = (0, (q2M call a0 x, x.1)) := by
     rw [← hA]; unfold B6o; rw [hκ, if_neg (of_decide_eq_false j3), if_pos (of_decide_eq_true j4), List.headD_cons, A90 hxv.1]
    rw [hof, if_pos rfl] at hr
    simp only at hr
    have hq2 : q2M call a0 x = (!(T6 (A2k call) x.2.2.2).isNone && decide (D3h (Y8 (T6 (A2k call) x.2.2.2).isNone ((T6 (A2k call) x.2.2.2).getD 0)) (Y8 a0.1 a0.2) < 0)) := rfl
    generalize T6 (A2k call) x.2.2.2 = o at *
    cases o with
    | none =>
     rw [hq2] at hr
     simp only [Option.isNone_none, Bool.not_true, Bool.false_and, Bool.false_eq_true, if_false] at hr
     simp only [go_sem, j3]
     refine A6 hK ?_
     simp only [go_sem, j3, j4, Option.isNone_none]
     ((try (with_reducible refine rF ?_)); (try simp only [go_sem, j3, j4, Option.isNone_none]))
     simp only [go_sem, C5, C6, C9, hl4, hlz, ei]
     ((try (with_reducible refine rF ?_)); (try simp only [go_sem, C5, C6, C9, hl4, hlz, ei]))
     clear hb1 hb2
     exact C3 (i + 1, out) (by first | omega | (simp only; omega)) ⟨by omega, by simp only; omega, hr⟩ (sR [] [])
    | some v =>
     simp only [Option.isNone_some, Option.getD_some, Bool.not_false, Bool.true_and] at hq2 hC1 ⊢
     simp only [go_sem, j3]
     refine A6 hK ?_
     simp only [go_sem, j3, j4, hx0]
     ((try (with_reducible refine rF ?_)); (try simp only [go_sem, j3, j4, hx0]))
     refine A6 hC1 ?_
     simp only [go_sem]
     ((try (with_reducible refine rF ?_)); (try simp only [go_sem]))
     rw [← hq2]
     cases hkp : q2M call a0 x
     ·rw [hkp] at hr
      simp only [Bool.false_eq_true, if_false] at hr
      simp only [go_sem, C5, C6, C9, hl4, hlz, ei]
      ((try (with_reducible refine rF ?_)); (try simp only [go_sem, C5, C6, C9, hl4, hlz, ei]))
      clear hb1 hb2
      exact C3 (i + 1, out) (by first | omega | (simp only; omega)) ⟨by omega, by simp only; omega, hr⟩ (sR [] [])
     ·rw [hkp] at hr
      simp only [if_true] at hr
      have hse : U4 (x.1, x.2) = [.v (.string (D6 x.1)), .v (.int .i64 x.2.1), .v (.int .i64 x.2.2.1), .sl 2 (x.2.2.2.map D7)] := rfl
      simp only [go_sem, C5, C6, C9, hl4, hlz, ei, hb1, hb2, hzo]
      ((try (with_reducible refine rF ?_)); (try simp only [go_sem, C5, C6, C9, hl4, hlz, ei, hb1, hb2, hzo]))
      clear hb1 hb2
      refine C3 (i + 1, out ++ [(x.1, x.2)]) (by first | omega | (simp only; omega)) ⟨by omega, by simp; omega, hr⟩ ?_
      simp only [List.length_append, List.length_cons, List.length_nil, Nat.zero_add, hdi, List.map_append, List.map_cons, List.map_nil, hse]
      exact (sR [(998, 359)] [])
  ·obtain ⟨a0, ar, rfl⟩ := hκ34 (Or.inl (of_decide_eq_true j3))
   have hna := hn a0 (by simp)
   have hC1 := C27 (T6 (A2k call) x.2.2.2).isNone a0.1 ((T6 (A2k call) x.2.2.2).getD 0) a0.2 hrtm.lo hna.1
   have hx0 : D7 a0 = [.v (.bool a0.1), .v (.int .i64 a0.2)] := rfl
   have hof : f i x = (0, (q1M call a0 x, x.1)) := by
    rw [← hA]; unfold B6o; rw [hκ, if_pos (of_decide_eq_true j3), List.headD_cons, A90 hxv.1]
   rw [hof, if_pos rfl] at hr
   simp only at hr
   have hq1 : decide (0 < D3h (Y8 (T6 (A2k call) x.2.2.2).isNone ((T6 (A2k call) x.2.2.2).getD 0)) (Y8 a0.1 a0.2)) = q1M call a0 x := rfl
   simp only [go_sem, j3, hx0]
   refine A6 hC1 ?_
   simp only [go_sem, hq1]
   ((try (with_reducible refine rF ?_)); (try simp only [go_sem, hq1]))
   cases hkp : q1M call a0 x
   ·rw [hkp] at hr
    simp only [Bool.false_eq_true, if_false] at hr
    simp only [go_sem, C5, C6, C9, hl4, hlz, ei]
    ((try (with_reducible refine rF ?_)); (try simp only [go_sem, C5, C6, C9, hl4, hlz, ei]))
    clear hb1 hb2
    exact C3 (i + 1, out) (by first | omega | (simp only; omega)) ⟨by omega, by simp only; omega, hr⟩ (sR [] [])
   ·rw [hkp] at hr
    simp only [if_true] at hr
    have hse : U4 (x.1, x.2) = [.v (.string (D6 x.1)), .v (.int .i64 x.2.1), .v (.int .i64 x.2.2.1), .sl 2 (x.2.2.2.map D7)] := rfl
    simp only [go_sem, C5, C6, C9, hl4, hlz, ei, hb1, hb2, hzo]
    ((try (with_reducible refine rF ?_)); (try simp only [go_sem, C5, C6, C9, hl4, hlz, ei, hb1, hb2, hzo]))
    clear hb1 hb2
    refine C3 (i + 1, out ++ [(x.1, x.2)]) (by first | omega | (simp only; omega)) ⟨by omega, by simp; omega, hr⟩ ?_
    simp only [List.length_append, List.length_cons, List.length_nil, Nat.zero_add, hdi, List.map_append, List.map_cons, List.map_nil, hse]
    exact (sR [(998, 359)] [])
 ·obtain rfl : i = L.length := by omega
  have d0 : decide (L.length < L.length) = false := decide_eq_false (by omega)
  rw [List.drop_length, A4a] at hr
  subst hr
  have hgb : ∀ b : Bool, (call == A8q || call == B42) = b → B3s call tx (out, 0) = (out, if b = true then (F6 tx).2 else 0) := by
   intro b hb
   unfold B3s
   cases b
   ·rw [if_neg (by rw [hb]; simp)]; rfl
   ·rw [if_pos ⟨rfl, hb⟩]; rfl
  have hCo := A7r (D6 tx)
  rw [X2] at hCo
  rw [hC2]
  simp only [go_sem, A61, hzL, d0, B1t]
  cases hg : (call == A8q)
  ·cases he : (call == B42)
   ·rw [hgb false (by rw [hg, he]; rfl)]
    simp only [go_sem, qg, qe, hg, he]
    by_cases h0 : out = []
    ·subst h0
     refine wS [] ?_
     simp only [go_sem, G5, exists_eq_left', Option.some.injEq]
     simp [G1, G2, B1, AV.asOwn, B3, A9, AV.isNil, J8, B6, B4, B8]
    ·have hp : decide (0 < out.length) = true := decide_eq_true (List.length_pos_iff.2 h0)
     rw [hp]
     refine wS [998] ?_
     simp only [go_sem, G5, exists_eq_left', Option.some.injEq]
     simp [G1, G2, B1, AV.asOwn, B3, A9, AV.isNil, J8, B6, B4, B8, hzo, List.take_of_length_le]
   ·rw [hgb true (by rw [hg, he]; rfl)]
    simp only [go_sem, qg, qe, hg, he]
    ((try (with_reducible refine rF ?_)); (try simp only [go_sem, qg, qe, hg, he]))
    refine A6 hCo ?_
    simp only [go_sem]
    by_cases h0 : out = []
    ·subst h0
     refine wS [] ?_
     simp only [go_sem, G5, exists_eq_left', Option.some.injEq]
     simp [G1, G2, B1, AV.asOwn, B3, A9, AV.isNil, J8, B6, B4, B8]
    ·have hp : decide (0 < out.length) = true := decide_eq_true (List.length_pos_iff.2 h0)
     rw [hp]
     refine wS [998] ?_
     simp only [go_sem, G5, exists_eq_left', Option.some.injEq]
     simp [G1, G2, B1, AV.asOwn, B3, A9, AV.isNil, J8, B6, B4, B8, hzo, List.take_of_length_le]
  ·rw [hgb true (by rw [hg]; rfl)]
   simp only [go_sem, qg, qe, hg]
   ((try (with_reducible refine rF ?_)); (try simp only [go_sem, qg, qe, hg]))
   refine A6 hCo ?_
   simp only [go_sem]
   by_cases h0 : out = []
   ·subst h0
    refine wS [] ?_
    simp only [go_sem, G5, exists_eq_left', Option.some.injEq]
    simp [G1, G2, B1, AV.asOwn, B3, A9, AV.isNil, J8, B6, B4, B8]
   ·have hp : decide (0 < out.length) = true := decide_eq_true (List.length_pos_iff.2 h0)
    rw [hp]
    refine wS [998] ?_
    simp only [go_sem, G5, exists_eq_left', Option.some.injEq]
    simp [G1, G2, B1, AV.asOwn, B3, A9, AV.isNil, J8, B6, B4, B8, hzo, List.take_of_length_le]

theorem B4c (wd tx : List UInt8) (args : List Num) (l : List F4) (h1 : l.length ≤ 4611686018427387904) (h2 : args.length ≤ 4611686018427387903) (h3 : ∀ s ∈ l, s.2.2.2.length ≤ 4611686018427387904 ∧ inS s) (h4 : ∀ n ∈ args, inN n) :
  Meets Tryz.prog E0 A27 [.ag [Q5 (D6 wd), M6 args, Q5 (D6 tx)], A0e l] [] (Bo true) [] := by
 refine X6 B4l ?_
 have hG := C69 wd tx args l h1 h2 (fun s hs => (h3 s hs).1)
 cases hg : C4q wd tx args l
 ·obtain ⟨g1, g2, g3, g4, g5⟩ := D07 hg
  have hv : ∀ s ∈ l, s.1.length ≤ 100000 ∧ s.2.2.2.length ≤ 100000 ∧ inS s := fun s hs => ⟨by have := (g5 s hs).1; omega, by have := (g5 s hs).2; omega, (h3 s hs).2⟩
  have c1 := A9b wd l args tx (by omega) (by omega) (by omega) hv h4
  have c2 := C6m wd l args tx (by omega) (by omega) hv h4 (by omega)
  have c3 := B5k wd (by omega)
  have c4 := B75 wd
  rw [D5n] at c2
  obtain ⟨o1, o2⟩ := D0x (call := wd) (args := args) (tx := tx) (fun s hs => (hv s hs).2.1) rfl
  generalize A28 wd l args tx = R at *
  obtain ⟨R, e⟩ := R
  simp only at c1 c2 o1 o2
  generalize O2 wd = t at *
  obtain ⟨⟨t1, t2⟩, t3, t4⟩ := t
  simp only at c3 c4
  rw [hg] at hG
  have s1 := A3c R R (by omega) (by omega) o2
  have s2 := A3c l l (by omega) (by omega) (fun s hs => by have := (hv s hs).2.1; unfold maxLen; omega)
  rw [decide_eq_true rfl] at s1 s2
  have dn : ∀ y : Int, decide (y = y) = true := fun y => decide_eq_true rfl
  have hz : (l.map U4).length = l.length := by simp
  have b1 : l.length * 56 ≤ 2 ^ 47 := by omega
  have b2 : l.length < 2 ^ 47 := by omega
  simp only [go_sem, A2b]
  refine A6 B7i ?_
  simp only [go_sem]
  refine A6 hG ?_
  simp only [go_sem, hz, b1, b2]
  refine A11 [111] c1 (.one (Wk.refl _) (.one (Wk.row (by simp [B1, AV.asOwn, B3, A9, hz, List.take_of_length_le]) (by simp)) (.one (Wk.refl _) (.one (Wk.refl _) .nil)))) (by simp [A9]) ?_
  simp only [go_sem]
  refine A6 c2 ?_
  simp only [go_sem]
  refine A6 c3 ?_
  simp only [go_sem]
  refine A6 c4 ?_
  simp only [go_sem]
  refine A6 s1 ?_
  simp only [go_sem, dn]
  refine A11 [] s2 (.one (Wk.fro (by simp [B1, AV.asOwn, B3, A9, hz, List.take_of_length_le]) (by simp [A9]; rfl)) (.one (Wk.refl _) .nil)) (by simp) ?_
  simp only [go_sem, dn, beq_self_eq_true]
  refine wE ?_
  simp only [go_sem, A2c]
 ·rw [hg] at hG
  simp only [go_sem, A2b]
  refine A6 B7i ?_
  simp only [go_sem]
  refine A6 hG ?_
  simp only [go_sem]
  refine wE ?_
  simp only [go_sem, A2c]

end Go.Proofs.YtgmpceijcdimkaaGreatDoor
