/- The contract of the law on what was set last. No statement of the seat is proved here. -/
import Derived.Test.YtmafaockdiodfaaRgLaw2
set_option linter.unusedSimpArgs false
set_option linter.unusedVariables false
namespace Go.Proofs.Ytmafaockdiodfaa
open Go Go.Sx

abbrev Act := Nat × Int
def actT (a : Act) : List T := [.v (.int .u16 (a.1 : Nat)), .v (.int .i64 a.2)]
abbrev actL (l : List Act) : AV := .t (.sl 2 (l.map actT))
/-- What the last act says that has a slot's place. -/
def stepA (w n q : Int) (acc : Num) (a : Act) : Num := if a.2 = -9223372036854775808 ∨ (a.1 : Int) / w % n ≠ q % n then acc else if (a.1 : Int) / w = q then (false, a.2) else (true, 0)
def lastA (w n : Int) (l : List Act) (q : Int) : Num := l.foldl (stepA w n q) (true, 0)
def setA (w : Int) (l : List Slot) (acts : List Act) : List Slot := acts.foldl (fun l a => (setM w l (a.1 : Int) a.2).1) l

structure SetA (w n : Int) (l : List Slot) (acts : List Act) : Prop where
  ring : ringB w l = true
  len : (l.length : Int) = n
  told : ∀ q : Int, 0 ≤ q → valueM w l (q * w) = lastA w n acts q

theorem setA_0 {w n : Int} (h : sizedB w n = true) : SetA w n (List.replicate n.toNat (-1, 0)) [] where
  ring := ring_new h
  len := by have := sizedB_iff.1 h; simp; omega
  told := fun q hq => by
    have h' := sizedB_iff.1 h
    have := Int.mul_nonneg hq (show 0 ≤ w by omega)
    unfold valueM
    split
    · rename_i s hs
      obtain ⟨_, rfl⟩ := List.mem_replicate.1 (List.mem_of_getElem? hs)
      rw [if_neg (by simp only; omega)]; rfl
    · rfl

theorem setA_succ {w n : Int} {l : List Slot} {acts : List Act} {a : Act} (h : SetA w n l acts) (ha : a.1 < 65536) : SetA w n (setM w l (a.1 : Int) a.2).1 (acts ++ [a]) ∧ (setM w l (a.1 : Int) a.2).2 = if a.2 = -9223372036854775808 then 1 else 0 := by
  have hs := ringB_sized h.ring
  have ht : timedB (a.1 : Int) = true := timedB_iff.2 ⟨by omega, by omega⟩
  have hadd : ∀ q, lastA w n (acts ++ [a]) q = stepA w n q (lastA w n acts q) a := fun q => by unfold lastA; rw [List.foldl_append]; rfl
  by_cases hv : a.2 = -9223372036854775808
  · rw [setM_bad (by simp [hv]), if_pos hv]
    refine ⟨⟨h.ring, h.len, fun q hq => ?_⟩, rfl⟩
    rw [hadd, h.told q hq]
    simp only [stepA, hv, true_or, if_true]
  · have e := setM_ok h.ring ht hv
    rw [e, if_neg hv]
    refine ⟨⟨set_right h.ring ht hv, by simpa using h.len, fun q hq => ?_⟩, rfl⟩
    have hw : w ≠ 0 := by omega
    have hpq : placeM w l (q * w) = (q % n).toNat := by unfold placeM; rw [Int.mul_ediv_cancel _ hw, h.len]
    have hpt : placeM w l ((a.1 : Int) / w * w) = ((a.1 : Int) / w % n).toNat := by unfold placeM; rw [Int.mul_ediv_cancel _ hw, h.len]
    have hn0 : n ≠ 0 := by have := h.len; omega
    have m1 := Int.emod_nonneg q hn0
    have m2 := Int.emod_nonneg ((a.1 : Int) / w) hn0
    rw [hadd]
    simp only
    rw [slot_mul, value_set2 (by omega), hpq, hpt, h.told q hq]
    unfold stepA
    by_cases hp : (a.1 : Int) / w % n = q % n
    · have hp2 : ((a.1 : Int) / w % n).toNat = (q % n).toNat := by rw [hp]
      have hor : ¬ (a.2 = -9223372036854775808 ∨ (a.1 : Int) / w % n ≠ q % n) := by simp [hv, hp]
      rw [if_pos hp2, if_neg hor]
      by_cases hq2 : (a.1 : Int) / w = q
      · rw [if_pos (show (a.1 : Int) / w * w = q * w by rw [hq2]), if_pos hq2]
      · rw [if_neg (show ¬ (a.1 : Int) / w * w = q * w from fun e => hq2 (Int.eq_of_mul_eq_mul_right hw e)), if_neg hq2]
    · have hp2 : ¬ ((a.1 : Int) / w % n).toNat = (q % n).toNat := by omega
      have hor : a.2 = -9223372036854775808 ∨ (a.1 : Int) / w % n ≠ q % n := Or.inr hp
      rw [if_neg hp2, if_pos hor]

theorem take_snoc {α : Type} {l : List α} {i : Nat} {a : α} (h : l[i]? = some a) : l.take (i + 1) = l.take i ++ [a] := by
  rw [List.take_add_one, h]; rfl

theorem lastA_succ {w n q : Int} {l : List Act} {i : Nat} {a : Act} (h : l[i]? = some a) : lastA w n (l.take (i + 1)) q = stepA w n q (lastA w n (l.take i) q) a := by
  rw [take_snoc h]; unfold lastA; rw [List.foldl_append]; rfl

set_option maxHeartbeats 1000000 in
theorem f_law13_RingLast (st ct : Nat) (acts : List Act) (hst : st < 256) (hct : ct < 256) (ha : ∀ a ∈ acts, a.1 < 65536) : Meets Try.prog E0 n_law13_RingLast [.t (.v (.int .u8 (st : Nat))), .t (.v (.int .u8 (ct : Nat))), actL acts] [] (Bo true) [] := by
  refine m_law13_RingLast (by simp) (shut0 rfl) (shut0 rfl) (by simp) (by simp [keysOf]) ?_
  cases d1 : decide (100 < (acts.length : Int))
  case true =>
    clear ha
    repeat' (first | (with_reducible refine Cl_plain (f_law13_alive) ?_) | (simp only [go_sem, s_law13_RingLast, ↓reduceIte, Nat.reduceEqDiff, Nat.reduceAdd, Nat.reduceLeDiff, reduceCtorEq, Nat.reduceLT, Int.reduceLT, Int.reduceLE, Int.reduceEq, Int.reduceToNat, Nat.reduceMul, *]) | (simp (disch := omega) only [s_law13_RingLast, wrap_i64_of, i64_quo, i64_rem, sdiv, smod]) | ((with_reducible refine W_split (by with_unfolding_all exact rfl) (fun hsp => ?_) (fun hsp => ?_)) <;> (try simp only [Bool.not_true, Bool.not_false, decide_eq_true_eq, decide_eq_false_iff_not, Bool.not_eq_true', Bool.not_eq_false', not_false_eq_true] at hsp)) | ((with_reducible refine R_split (by with_unfolding_all exact rfl) (fun hsp => ?_) (fun hsp => ?_)) <;> (try simp only [Bool.not_true, Bool.not_false, decide_eq_true_eq, decide_eq_false_iff_not, Bool.not_eq_true', Bool.not_eq_false', not_false_eq_true] at hsp)) | (with_reducible refine R_fin (by repeat' (first | exact okp0 | refine okp rfl rfl rfl ?_)) ?_))
    refine wends (by first | exact Or.inl rfl | exact Or.inr rfl) ?_ (by first | rfl | simp [AV.ids, idsL])
    simp only [go_sem, r_law13_RingLast, ↓reduceIte, Nat.reduceEqDiff, Nat.reduceAdd, Nat.reduceLeDiff, reduceCtorEq, Nat.reduceLT, Int.reduceLT, Int.reduceLE, Int.reduceEq, Int.reduceToNat, Nat.reduceMul]
  have c1 := of_decide_eq_false d1
  have x1 : IntKind.i64.wrap (st : Int) = st := wrap_i64_of (by omega) (by omega)
  have x2 : IntKind.i64.wrap (ct : Int) = ct := wrap_i64_of (by omega) (by omega)
  have x3 := smod (a := (st : Int)) (b := 20) (by omega)
  have x4 := smod (a := (ct : Int)) (b := 20) (by omega)
  have x5 : IntKind.i64.wrap (1 + (st : Int) % 20) = 1 + (st : Int) % 20 := wrap_i64_of (by omega) (by omega)
  have x6 : IntKind.i64.wrap (1 + (ct : Int) % 20) = 1 + (ct : Int) % 20 := wrap_i64_of (by omega) (by omega)
  simp only [go_sem, s_law13_RingLast, ↓reduceIte, Nat.reduceEqDiff, Nat.reduceAdd, Nat.reduceLeDiff, reduceCtorEq, Nat.reduceLT, Int.reduceLT, Int.reduceLE, Int.reduceEq, Int.reduceToNat, Nat.reduceMul]
  refine Cl_plain f_law13_alive ?_
  simp only [go_sem, d1, x1, x2, x3, x4, x5, x6, ↓reduceIte, Nat.reduceEqDiff, Nat.reduceAdd, Nat.reduceLeDiff, reduceCtorEq, Nat.reduceLT, Int.reduceLT, Int.reduceLE, Int.reduceEq, Int.reduceToNat, Nat.reduceMul]
  obtain ⟨w, hw⟩ : ∃ w : Int, 1 + (st : Int) % 20 = w := ⟨_, rfl⟩
  obtain ⟨n, hn⟩ : ∃ n : Int, 1 + (ct : Int) % 20 = n := ⟨_, rfl⟩
  rw [hw, hn]
  have w1 : 1 ≤ w ∧ w ≤ 20 := by omega
  have n1 : 1 ≤ n ∧ n ≤ 20 := by omega
  have hsz : sizedB w n = true := sizedB_iff.2 ⟨by omega, by omega, by omega, by omega⟩
  have b1 := f_ring_New w n
  have e1 : newM w n = ((w, List.replicate n.toNat (-1, 0)), 0) := by simp [newM, hsz]
  rw [e1] at b1
  have hz0 : decide ((0 : Int) = 0) = true := rfl
  have hz1 : decide ((1 : Int) = 0) = false := rfl
  have hw0 : ¬ w = 0 := by omega
  have hn0 : ¬ n = 0 := by omega
  refine Cl_plain b1 ?_
  simp only [go_sem, hz0, ↓reduceIte, Nat.reduceEqDiff, Nat.reduceAdd, Nat.reduceLeDiff, reduceCtorEq, Nat.reduceLT, Int.reduceLT, Int.reduceLE, Int.reduceEq, Int.reduceToNat, Nat.reduceMul]
  refine W_loop (fun x : Nat × List Slot => acts.length - x.1) (fun x => x.1 ≤ acts.length ∧ SetA w n x.2 (acts.take x.1))
    (fun x => [(2, actL acts), (7, I n), (8, I w), (9, .ptr 124 0), (11, I x.1)])
    (fun x => [(124, .box [I w, slL x.2])])
    (0, List.replicate n.toNat (-1, 0)) ⟨Nat.zero_le _, by simpa using setA_0 hsz⟩ (subL [] [] (by simp [envS, go_sem, wkV, wkL, AV.ids, idsL, keysOf, ren]) (by simp [stoS, go_sem, wkV, wkL, wkO, AV.ids, Ob.ids, idsL, keysOf, ren, AV.one]) (by simp [keysOf, ren]) (by simp) (by simp [keysOf]) (by simp [keysOf])) ?_
  rintro ⟨i, l⟩ ⟨hi, hS⟩
  simp only at hi hS
  simp only [go_sem, s_law13_RingLast_b0, ↓reduceIte, Nat.reduceEqDiff, Nat.reduceAdd, Nat.reduceLeDiff, reduceCtorEq, Nat.reduceLT, Int.reduceLT, Int.reduceLE, Int.reduceEq, Int.reduceToNat, Nat.reduceMul]
  refine W_split rfl (fun h => ?_) (fun h => ?_)
  · simp at h
    obtain ⟨a, hs⟩ := get_of_lt h
    have hab := ha a (List.mem_of_getElem? hs)
    have ei : IntKind.i64.wrap ((i : Int) + 1) = ((i + 1 : Nat) : Int) := by rw [wrap_i64_of (by omega) (by omega)]; omega
    have y1 : IntKind.i64.wrap (a.1 : Int) = a.1 := wrap_i64_of (by omega) (by omega)
    have hln := ringB_sized hS.ring
    have bS := f_ring_Set w (a.1 : Int) a.2 l (by omega)
    obtain ⟨g1, g2⟩ := setA_succ hS hab
    rw [g2] at bS
    rw [← take_snoc hs] at g1
    simp only [go_sem, hs, actT, y1, ↓reduceIte, Nat.reduceEqDiff, Nat.reduceAdd, Nat.reduceLeDiff, reduceCtorEq, Nat.reduceLT, Int.reduceLT, Int.reduceLE, Int.reduceEq, Int.reduceToNat, Nat.reduceMul]
    refine Cl_plain bS ?_
    cases d2 : decide (a.2 = -9223372036854775808)
    · rw [if_neg (of_decide_eq_false d2)]
      simp only [go_sem, ↓reduceIte, Nat.reduceEqDiff, Nat.reduceAdd, Nat.reduceLeDiff, reduceCtorEq, Nat.reduceLT, Int.reduceLT, Int.reduceLE, Int.reduceEq, Int.reduceToNat, Nat.reduceMul]
      ((try (with_reducible refine R_fin (by repeat' (first | exact okp0 | refine okp rfl rfl rfl ?_)) ?_)); (try simp only [go_sem, hs, actT, d2, hz0, ei, beq_self_eq_true, ↓reduceIte, Nat.reduceEqDiff, Nat.reduceAdd, Nat.reduceLeDiff, reduceCtorEq, Nat.reduceLT, Int.reduceLT, Int.reduceLE, Int.reduceEq, Int.reduceToNat, Nat.reduceMul]))
      exact rd_of (i + 1, _) (by simp only; omega) ⟨by simp only; omega, g1⟩ (subL [] [] (by simp [envS, go_sem, wkV, wkL, AV.ids, idsL, keysOf, ren]) (by simp [stoS, go_sem, wkV, wkL, wkO, AV.ids, Ob.ids, idsL, keysOf, ren, AV.one]) (by simp [keysOf, ren]) (by simp) (by simp [keysOf]) (by simp [keysOf]))
    · rw [if_pos (of_decide_eq_true d2)]
      simp only [go_sem, ↓reduceIte, Nat.reduceEqDiff, Nat.reduceAdd, Nat.reduceLeDiff, reduceCtorEq, Nat.reduceLT, Int.reduceLT, Int.reduceLE, Int.reduceEq, Int.reduceToNat, Nat.reduceMul]
      ((try (with_reducible refine R_fin (by repeat' (first | exact okp0 | refine okp rfl rfl rfl ?_)) ?_)); (try simp only [go_sem, hs, actT, d2, hz1, ei, beq_self_eq_true, ↓reduceIte, Nat.reduceEqDiff, Nat.reduceAdd, Nat.reduceLeDiff, reduceCtorEq, Nat.reduceLT, Int.reduceLT, Int.reduceLE, Int.reduceEq, Int.reduceToNat, Nat.reduceMul]))
      exact rd_of (i + 1, _) (by simp only; omega) ⟨by simp only; omega, g1⟩ (subL [] [] (by simp [envS, go_sem, wkV, wkL, AV.ids, idsL, keysOf, ren]) (by simp [stoS, go_sem, wkV, wkL, wkO, AV.ids, Ob.ids, idsL, keysOf, ren, AV.one]) (by simp [keysOf, ren]) (by simp) (by simp [keysOf]) (by simp [keysOf]))
  · have e : i = acts.length := by simp at h; omega
    subst e
    rw [List.take_length] at hS
    have hln := ringB_sized hS.ring
    simp only [go_sem, s_law13_RingLast_t6, ↓reduceIte, Nat.reduceEqDiff, Nat.reduceAdd, Nat.reduceLeDiff, reduceCtorEq, Nat.reduceLT, Int.reduceLT, Int.reduceLE, Int.reduceEq, Int.reduceToNat, Nat.reduceMul]
    refine W_loop (fun i : Nat => acts.length - i) (fun i => i ≤ acts.length)
      (fun i => [(2, actL acts), (7, I n), (8, I w), (9, .ptr 124 0), (14, I i)])
      (fun i => [(124, .box [I w, slL l])])
      0 (Nat.zero_le _) (subL [] [] (by simp [envS, go_sem, wkV, wkL, AV.ids, idsL, keysOf, ren]) (by simp [stoS, go_sem, wkV, wkL, wkO, AV.ids, Ob.ids, idsL, keysOf, ren, AV.one]) (by simp [keysOf, ren]) (by simp) (by simp [keysOf]) (by simp [keysOf])) ?_
    intro i hi
    simp only [go_sem, s_law13_RingLast_b4, ↓reduceIte, Nat.reduceEqDiff, Nat.reduceAdd, Nat.reduceLeDiff, reduceCtorEq, Nat.reduceLT, Int.reduceLT, Int.reduceLE, Int.reduceEq, Int.reduceToNat, Nat.reduceMul]
    refine W_split rfl (fun h => ?_) (fun h => ?_)
    · simp at h
      obtain ⟨a, hs⟩ := get_of_lt h
      have hab := ha a (List.mem_of_getElem? hs)
      have ei : IntKind.i64.wrap ((i : Int) + 1) = ((i + 1 : Nat) : Int) := by rw [wrap_i64_of (by omega) (by omega)]; omega
      have y1 : IntKind.i64.wrap (a.1 : Int) = a.1 := wrap_i64_of (by omega) (by omega)
      have y2 : (a.1 : Int).tdiv w = (a.1 : Int) / w := sdiv (by omega)
      have q0 : 0 ≤ (a.1 : Int) / w := Int.ediv_nonneg (by omega) (by omega)
      have q1 : (a.1 : Int) / w ≤ (a.1 : Int) := Int.ediv_le_self _ (by omega)
      have y3 : IntKind.i64.wrap ((a.1 : Int) / w) = (a.1 : Int) / w := wrap_i64_of (by omega) (by omega)
      simp only [go_sem, hs, actT, y1, i64_quo hw0, y2, y3, ↓reduceIte, Nat.reduceEqDiff, Nat.reduceAdd, Nat.reduceLeDiff, reduceCtorEq, Nat.reduceLT, Int.reduceLT, Int.reduceLE, Int.reduceEq, Int.reduceToNat, Nat.reduceMul]
      refine Cl_plain f_ref02_NothingN ?_
      simp only [go_sem, ↓reduceIte, Nat.reduceEqDiff, Nat.reduceAdd, Nat.reduceLeDiff, reduceCtorEq, Nat.reduceLT, Int.reduceLT, Int.reduceLE, Int.reduceEq, Int.reduceToNat, Nat.reduceMul]
      refine W_loop (fun j : Nat => acts.length - j) (fun j => j ≤ acts.length)
        (fun j => [(2, actL acts), (7, I n), (8, I w), (9, .ptr 124 0), (14, I i), (15, I ((a.1 : Int) / w)), (16, .ptr 184 0), (17, I j)])
        (fun j => [(124, .box [I w, slL l]), (184, .box [Bo (lastA w n (acts.take j) ((a.1 : Int) / w)).1, I (lastA w n (acts.take j) ((a.1 : Int) / w)).2])])
        0 (Nat.zero_le _) ?_ ?_
      · rw [show lastA w n (acts.take 0) ((a.1 : Int) / w) = (true, 0) from rfl]
        exact (subL [] [] (by simp [envS, go_sem, wkV, wkL, AV.ids, idsL, keysOf, ren]) (by simp [stoS, go_sem, wkV, wkL, wkO, AV.ids, Ob.ids, idsL, keysOf, ren, AV.one]) (by simp [keysOf, ren]) (by simp) (by simp [keysOf]) (by simp [keysOf]))
      intro j hj
      simp only [go_sem, s_law13_RingLast_b1, ↓reduceIte, Nat.reduceEqDiff, Nat.reduceAdd, Nat.reduceLeDiff, reduceCtorEq, Nat.reduceLT, Int.reduceLT, Int.reduceLE, Int.reduceEq, Int.reduceToNat, Nat.reduceMul]
      refine W_split rfl (fun h2 => ?_) (fun h2 => ?_)
      · simp at h2
        obtain ⟨c, ht⟩ := get_of_lt h2
        have hcb := ha c (List.mem_of_getElem? ht)
        have ej : IntKind.i64.wrap ((j : Int) + 1) = ((j + 1 : Nat) : Int) := by rw [wrap_i64_of (by omega) (by omega)]; omega
        have z1 : IntKind.i64.wrap (c.1 : Int) = c.1 := wrap_i64_of (by omega) (by omega)
        have z2 : (c.1 : Int).tdiv w = (c.1 : Int) / w := sdiv (by omega)
        have p0 : 0 ≤ (c.1 : Int) / w := Int.ediv_nonneg (by omega) (by omega)
        have p1 : (c.1 : Int) / w ≤ (c.1 : Int) := Int.ediv_le_self _ (by omega)
        have z3 : IntKind.i64.wrap ((c.1 : Int) / w) = (c.1 : Int) / w := wrap_i64_of (by omega) (by omega)
        have z4 : ((c.1 : Int) / w).tmod n = (c.1 : Int) / w % n := smod p0
        have z5 : ((a.1 : Int) / w).tmod n = (a.1 : Int) / w % n := smod q0
        have hsucc := lastA_succ (w := w) (n := n) (q := (a.1 : Int) / w) ht
        unfold stepA at hsucc
        cases d2 : decide (c.2 = -9223372036854775808)
        case true =>
          rw [if_pos (Or.inl (of_decide_eq_true d2))] at hsucc
          simp only [go_sem, ht, actT, z1, i64_quo hw0, z2, z3, ↓reduceIte, Nat.reduceEqDiff, Nat.reduceAdd, Nat.reduceLeDiff, reduceCtorEq, Nat.reduceLT, Int.reduceLT, Int.reduceLE, Int.reduceEq, Int.reduceToNat, Nat.reduceMul]
          simp only [go_sem, ht, actT, d2, ↓reduceIte, Nat.reduceEqDiff, Nat.reduceAdd, Nat.reduceLeDiff, reduceCtorEq, Nat.reduceLT, Int.reduceLT, Int.reduceLE, Int.reduceEq, Int.reduceToNat, Nat.reduceMul]
          ((try (with_reducible refine R_fin (by repeat' (first | exact okp0 | refine okp rfl rfl rfl ?_)) ?_)); (try simp only [go_sem, ht, actT, d2, ej, ↓reduceIte, Nat.reduceEqDiff, Nat.reduceAdd, Nat.reduceLeDiff, reduceCtorEq, Nat.reduceLT, Int.reduceLT, Int.reduceLE, Int.reduceEq, Int.reduceToNat, Nat.reduceMul]))
          refine rd_of (j + 1) (by first | omega | (simp only; omega)) (by first | omega | (simp only; omega)) ?_
          rw [hsucc]
          exact (subL [] [] (by simp [envS, go_sem, wkV, wkL, AV.ids, idsL, keysOf, ren]) (by simp [stoS, go_sem, wkV, wkL, wkO, AV.ids, Ob.ids, idsL, keysOf, ren, AV.one]) (by simp [keysOf, ren]) (by simp) (by simp [keysOf]) (by simp [keysOf]))
        have d2' := of_decide_eq_false d2
        cases d3 : decide ((c.1 : Int) / w % n = (a.1 : Int) / w % n)
        case false =>
          rw [if_pos (Or.inr (of_decide_eq_false d3))] at hsucc
          simp only [go_sem, ht, actT, z1, i64_quo hw0, z2, z3, ↓reduceIte, Nat.reduceEqDiff, Nat.reduceAdd, Nat.reduceLeDiff, reduceCtorEq, Nat.reduceLT, Int.reduceLT, Int.reduceLE, Int.reduceEq, Int.reduceToNat, Nat.reduceMul]
          simp only [go_sem, ht, actT, d2, i64_rem hn0, z4, z5, d3, ↓reduceIte, Nat.reduceEqDiff, Nat.reduceAdd, Nat.reduceLeDiff, reduceCtorEq, Nat.reduceLT, Int.reduceLT, Int.reduceLE, Int.reduceEq, Int.reduceToNat, Nat.reduceMul]
          ((try (with_reducible refine R_fin (by repeat' (first | exact okp0 | refine okp rfl rfl rfl ?_)) ?_)); (try simp only [go_sem, ht, actT, d2, ej, ↓reduceIte, Nat.reduceEqDiff, Nat.reduceAdd, Nat.reduceLeDiff, reduceCtorEq, Nat.reduceLT, Int.reduceLT, Int.reduceLE, Int.reduceEq, Int.reduceToNat, Nat.reduceMul]))
          refine rd_of (j + 1) (by first | omega | (simp only; omega)) (by first | omega | (simp only; omega)) ?_
          rw [hsucc]
          exact (subL [] [] (by simp [envS, go_sem, wkV, wkL, AV.ids, idsL, keysOf, ren]) (by simp [stoS, go_sem, wkV, wkL, wkO, AV.ids, Ob.ids, idsL, keysOf, ren, AV.one]) (by simp [keysOf, ren]) (by simp) (by simp [keysOf]) (by simp [keysOf]))
        have d3' := of_decide_eq_true d3
        rw [if_neg (by simp [d2', d3'])] at hsucc
        simp only [go_sem, ht, actT, z1, i64_quo hw0, z2, z3, ↓reduceIte, Nat.reduceEqDiff, Nat.reduceAdd, Nat.reduceLeDiff, reduceCtorEq, Nat.reduceLT, Int.reduceLT, Int.reduceLE, Int.reduceEq, Int.reduceToNat, Nat.reduceMul]
        simp only [go_sem, ht, actT, d2, i64_rem hn0, z4, z5, d3, ↓reduceIte, Nat.reduceEqDiff, Nat.reduceAdd, Nat.reduceLeDiff, reduceCtorEq, Nat.reduceLT, Int.reduceLT, Int.reduceLE, Int.reduceEq, Int.reduceToNat, Nat.reduceMul]
        ((try (with_reducible refine R_fin (by repeat' (first | exact okp0 | refine okp rfl rfl rfl ?_)) ?_)); (try simp only [go_sem, ht, actT, d2, ↓reduceIte, Nat.reduceEqDiff, Nat.reduceAdd, Nat.reduceLeDiff, reduceCtorEq, Nat.reduceLT, Int.reduceLT, Int.reduceLE, Int.reduceEq, Int.reduceToNat, Nat.reduceMul]))
        refine Cl_plain f_ref02_NothingN ?_
        cases d4 : decide ((c.1 : Int) / w = (a.1 : Int) / w)
        · rw [if_neg (of_decide_eq_false d4)] at hsucc
          simp only [go_sem, d4, ej, ↓reduceIte, Nat.reduceEqDiff, Nat.reduceAdd, Nat.reduceLeDiff, reduceCtorEq, Nat.reduceLT, Int.reduceLT, Int.reduceLE, Int.reduceEq, Int.reduceToNat, Nat.reduceMul]
          refine rd_of (j + 1) (by first | omega | (simp only; omega)) (by first | omega | (simp only; omega)) ?_
          rw [hsucc]
          exact (subL [] [] (by simp [envS, go_sem, wkV, wkL, AV.ids, idsL, keysOf, ren]) (by simp [stoS, go_sem, wkV, wkL, wkO, AV.ids, Ob.ids, idsL, keysOf, ren, AV.one]) (by simp [keysOf, ren]) (by simp) (by simp [keysOf]) (by simp [keysOf]))
        · rw [if_pos (of_decide_eq_true d4)] at hsucc
          simp only [go_sem, d4, ht, actT, ej, ↓reduceIte, Nat.reduceEqDiff, Nat.reduceAdd, Nat.reduceLeDiff, reduceCtorEq, Nat.reduceLT, Int.reduceLT, Int.reduceLE, Int.reduceEq, Int.reduceToNat, Nat.reduceMul]
          refine rd_of (j + 1) (by first | omega | (simp only; omega)) (by first | omega | (simp only; omega)) ?_
          rw [hsucc]
          exact (subL [] [] (by simp [envS, go_sem, wkV, wkL, AV.ids, idsL, keysOf, ren]) (by simp [stoS, go_sem, wkV, wkL, wkO, AV.ids, Ob.ids, idsL, keysOf, ren, AV.one]) (by simp [keysOf, ren]) (by simp) (by simp [keysOf]) (by simp [keysOf]))
      · have e : j = acts.length := by simp at h2; omega
        subst e
        rw [List.take_length]
        have bG := f_ring_Get w (a.1 : Int) l
        have hG : getM w l (a.1 : Int) = lastA w n acts ((a.1 : Int) / w) := by
          have ht : timedB (a.1 : Int) = true := timedB_iff.2 ⟨by omega, by omega⟩
          unfold getM
          rw [hS.ring, ht]
          simp only [Bool.and_self, if_true]
          rw [slot_mul, hS.told _ q0]
        rw [hG] at bG
        simp only [go_sem, s_law13_RingLast_t2, hs, actT, y1, ↓reduceIte, Nat.reduceEqDiff, Nat.reduceAdd, Nat.reduceLeDiff, reduceCtorEq, Nat.reduceLT, Int.reduceLT, Int.reduceLE, Int.reduceEq, Int.reduceToNat, Nat.reduceMul]
        refine Cl_plain bG ?_
        simp only [go_sem, beq_self_eq_true, ↓reduceIte, Nat.reduceEqDiff, Nat.reduceAdd, Nat.reduceLeDiff, reduceCtorEq, Nat.reduceLT, Int.reduceLT, Int.reduceLE, Int.reduceEq, Int.reduceToNat, Nat.reduceMul]
        ((try (with_reducible refine R_fin (by repeat' (first | exact okp0 | refine okp rfl rfl rfl ?_)) ?_)); (try simp only [go_sem, beq_self_eq_true, s_law13_RingLast_t3, ei, ↓reduceIte, Nat.reduceEqDiff, Nat.reduceAdd, Nat.reduceLeDiff, reduceCtorEq, Nat.reduceLT, Int.reduceLT, Int.reduceLE, Int.reduceEq, Int.reduceToNat, Nat.reduceMul]))
        exact rd_of (i + 1) (by first | omega | (simp only; omega)) (by first | omega | (simp only; omega)) (subL [] [] (by simp [envS, go_sem, wkV, wkL, AV.ids, idsL, keysOf, ren]) (by simp [stoS, go_sem, wkV, wkL, wkO, AV.ids, Ob.ids, idsL, keysOf, ren, AV.one]) (by simp [keysOf, ren]) (by simp) (by simp [keysOf]) (by simp [keysOf]))
    · have e : i = acts.length := by simp at h; omega
      subst e
      have hll := live_len w l
      have dn : decide (((liveM w l).length : Int) ≤ n) = true := decide_eq_true (by have := hS.len; omega)
      simp only [go_sem, s_law13_RingLast_t5, ↓reduceIte, Nat.reduceEqDiff, Nat.reduceAdd, Nat.reduceLeDiff, reduceCtorEq, Nat.reduceLT, Int.reduceLT, Int.reduceLE, Int.reduceEq, Int.reduceToNat, Nat.reduceMul]
      refine Cl_plain (f_ring_Live w l) ?_
      simp only [go_sem, dn, ↓reduceIte, Nat.reduceEqDiff, Nat.reduceAdd, Nat.reduceLeDiff, reduceCtorEq, Nat.reduceLT, Int.reduceLT, Int.reduceLE, Int.reduceEq, Int.reduceToNat, Nat.reduceMul]
      refine wends (by first | exact Or.inl rfl | exact Or.inr rfl) ?_ (by first | rfl | simp [AV.ids, idsL])
      simp only [go_sem, r_law13_RingLast, ↓reduceIte, Nat.reduceEqDiff, Nat.reduceAdd, Nat.reduceLeDiff, reduceCtorEq, Nat.reduceLT, Int.reduceLT, Int.reduceLE, Int.reduceEq, Int.reduceToNat, Nat.reduceMul]

end Go.Proofs.Ytmafaockdiodfaa
