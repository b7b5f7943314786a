/- Names, keys and pairs of a configuration, the document's way: contracts. No statement of the seat is proved here. -/
import Derived.Test.YtbkchhjdjijhkaaDoorCfRef
import Derived.Test.YtbkchhjdjijhkaaDoorSxH
set_option linter.unusedSimpArgs false
set_option linter.unusedVariables false
namespace Go.Proofs.YtbkchhjdjijhkaaDoor
open Go Go.Sx

theorem f_ref11_named (l : List UInt8) (hl : l.length ≤ 4611686018427387904) : Meets Tryd.prog E0 n_ref11_named [Str (toB l)] [] (Bo (cfNamed l)) [] := by
  refine m_ref11_named (by simp) (shut0 rfl) (shut0 rfl) (by simp) (by simp [keysOf]) ?_
  simp only [go_sem, s_ref11_named, ↓reduceIte, Nat.reduceEqDiff, Nat.reduceAdd, Nat.reduceLeDiff, reduceCtorEq, Nat.reduceLT, Int.reduceLT, Int.reduceLE, Int.reduceEq, Int.reduceToNat, Nat.reduceMul]
  refine W_loop (fun i : Nat => l.length - i) (fun i => i ≤ l.length ∧ (l.drop i).contains 93 = l.contains 93) (fun i => [(0, Str (toB l)), (3, I i)]) (fun _ => []) 0 ⟨Nat.zero_le _, by simp⟩ (subL [] [] (by simp [envS, go_sem, wkV, wkL, AV.ids, idsL, keysOf, ren, stoOf, slTrees, AV.asOwn, rowPart, AV.isNil, shA, rowsT, cellsT, cellT, wkLL] <;> assumption) (by simp [stoS, go_sem, wkV, wkL, wkO, AV.ids, Ob.ids, idsL, keysOf, ren, AV.one, stoOf, slTrees, AV.asOwn, rowPart, AV.isNil, shA, rowsT, cellsT, cellT, wkLL] <;> assumption) (by simp [keysOf, ren]) (by simp [stoOf, keysOf, ren]) (by simp [keysOf, ren]) (by simp [keysOf, ren])) ?_
  rintro i ⟨hi, hall⟩
  by_cases hil : i < l.length
  · have d0 : decide (i < l.length) = true := decide_eq_true hil
    obtain ⟨b, hb⟩ := get_of_lt hil
    have hg : (toB l)[i]? = some b := by rw [getT]; exact hb
    rw [drop_get hb, List.contains_cons] at hall
    have ei : IntKind.i64.wrap ((i : Int) + 1) = ((i + 1 : Nat) : Int) := by rw [wrap_i64_of (by omega) (by omega)]; omega
    by_cases h93 : b = 93
    · subst h93
      have hk : cfNamed l = false := by unfold cfNamed; rw [← hall]; simp
      have d1 : decide (UInt8.toNat 93 = 93) = true := rfl
      rw [hk]
      simp only [go_sem, d0, hg, ei, toB_size, d1, ↓reduceIte, Nat.reduceEqDiff, Nat.reduceAdd, Nat.reduceLeDiff, reduceCtorEq, Nat.reduceLT, Int.reduceLT, Int.reduceLE, Int.reduceEq, Int.reduceToNat, Nat.reduceMul]
      refine wends (by first | exact Or.inl rfl | exact Or.inr rfl) ?_ (by first | rfl | simp [AV.ids, idsL])
      simp only [go_sem, r_ref11_named, ↓reduceIte, Nat.reduceEqDiff, Nat.reduceAdd, Nat.reduceLeDiff, reduceCtorEq, Nat.reduceLT, Int.reduceLT, Int.reduceLE, Int.reduceEq, Int.reduceToNat, Nat.reduceMul]
    · have d1 : decide (b.toNat = 93) = false := decide_eq_false (fun e => h93 (UInt8.toNat_inj.1 e))
      have hbe : ((93 : UInt8) == b) = false := by simpa using fun e => h93 e.symm
      rw [hbe, Bool.false_or] at hall
      simp only [go_sem, d0, hg, ei, toB_size, d1, ↓reduceIte, Nat.reduceEqDiff, Nat.reduceAdd, Nat.reduceLeDiff, reduceCtorEq, Nat.reduceLT, Int.reduceLT, Int.reduceLE, Int.reduceEq, Int.reduceToNat, Nat.reduceMul]
      exact rd_of (i + 1) (by first | omega | (simp only; omega)) ⟨hil, hall⟩ (subL [] [] (by simp [envS, go_sem, wkV, wkL, AV.ids, idsL, keysOf, ren, stoOf, slTrees, AV.asOwn, rowPart, AV.isNil, shA, rowsT, cellsT, cellT, wkLL] <;> assumption) (by simp [stoS, go_sem, wkV, wkL, wkO, AV.ids, Ob.ids, idsL, keysOf, ren, AV.one, stoOf, slTrees, AV.asOwn, rowPart, AV.isNil, shA, rowsT, cellsT, cellT, wkLL] <;> assumption) (by simp [keysOf, ren]) (by simp [stoOf, keysOf, ren]) (by simp [keysOf, ren]) (by simp [keysOf, ren]))
  · obtain rfl : i = l.length := by omega
    have d0 : decide (l.length < l.length) = false := decide_eq_false (by omega)
    rw [List.drop_length] at hall
    have hk : cfNamed l = (decide (1 ≤ l.length) && decide (l.length ≤ 32)) := by unfold cfNamed; rw [← hall]; simp
    have d3 : decide ((l.length : Int) ≤ 32) = decide (l.length ≤ 32) := decide_eq_decide.2 (by omega)
    have d4 : decide ((1 : Int) ≤ (l.length : Int)) = decide (1 ≤ l.length) := decide_eq_decide.2 (by omega)
    rw [hk]
    cases h1 : decide (1 ≤ l.length)
    · simp only [go_sem, d0, toB_size, d4, h1, ↓reduceIte, Nat.reduceEqDiff, Nat.reduceAdd, Nat.reduceLeDiff, reduceCtorEq, Nat.reduceLT, Int.reduceLT, Int.reduceLE, Int.reduceEq, Int.reduceToNat, Nat.reduceMul]
      refine wends (by first | exact Or.inl rfl | exact Or.inr rfl) ?_ (by first | rfl | simp [AV.ids, idsL])
      simp only [go_sem, r_ref11_named, ↓reduceIte, Nat.reduceEqDiff, Nat.reduceAdd, Nat.reduceLeDiff, reduceCtorEq, Nat.reduceLT, Int.reduceLT, Int.reduceLE, Int.reduceEq, Int.reduceToNat, Nat.reduceMul]
      first | done | rfl
    · simp only [go_sem, d0, toB_size, d4, h1, d3, ↓reduceIte, Nat.reduceEqDiff, Nat.reduceAdd, Nat.reduceLeDiff, reduceCtorEq, Nat.reduceLT, Int.reduceLT, Int.reduceLE, Int.reduceEq, Int.reduceToNat, Nat.reduceMul]
      refine wends (by first | exact Or.inl rfl | exact Or.inr rfl) ?_ (by first | rfl | simp [AV.ids, idsL])
      simp only [go_sem, r_ref11_named, ↓reduceIte, Nat.reduceEqDiff, Nat.reduceAdd, Nat.reduceLeDiff, reduceCtorEq, Nat.reduceLT, Int.reduceLT, Int.reduceLE, Int.reduceEq, Int.reduceToNat, Nat.reduceMul]
      first | done | rfl

theorem f_ref11_keyed (l : List UInt8) (hl : l.length ≤ 4611686018427387904) : Meets Tryd.prog E0 n_ref11_keyed [Str (toB l)] [] (Bo (cfKeyed l)) [] := by
  refine m_ref11_keyed (by simp) (shut0 rfl) (shut0 rfl) (by simp) (by simp [keysOf]) ?_
  simp only [go_sem, s_ref11_keyed, ↓reduceIte, Nat.reduceEqDiff, Nat.reduceAdd, Nat.reduceLeDiff, reduceCtorEq, Nat.reduceLT, Int.reduceLT, Int.reduceLE, Int.reduceEq, Int.reduceToNat, Nat.reduceMul]
  refine W_loop (fun i : Nat => l.length - i) (fun i => i ≤ l.length ∧ (l.drop i).all letterB = l.all letterB) (fun i => [(0, Str (toB l)), (3, I i)]) (fun _ => []) 0 ⟨Nat.zero_le _, by simp⟩ (subL [] [] (by simp [envS, go_sem, wkV, wkL, AV.ids, idsL, keysOf, ren, stoOf, slTrees, AV.asOwn, rowPart, AV.isNil, shA, rowsT, cellsT, cellT, wkLL] <;> assumption) (by simp [stoS, go_sem, wkV, wkL, wkO, AV.ids, Ob.ids, idsL, keysOf, ren, AV.one, stoOf, slTrees, AV.asOwn, rowPart, AV.isNil, shA, rowsT, cellsT, cellT, wkLL] <;> assumption) (by simp [keysOf, ren]) (by simp [stoOf, keysOf, ren]) (by simp [keysOf, ren]) (by simp [keysOf, ren])) ?_
  rintro i ⟨hi, hall⟩
  by_cases hil : i < l.length
  · have d0 : decide (i < l.length) = true := decide_eq_true hil
    obtain ⟨b, hb⟩ := get_of_lt hil
    have hg : (toB l)[i]? = some b := by rw [getT]; exact hb
    rw [drop_get hb, List.all_cons] at hall
    have ei : IntKind.i64.wrap ((i : Int) + 1) = ((i + 1 : Nat) : Int) := by rw [wrap_i64_of (by omega) (by omega)]; omega
    have hlb : letterB b = ((decide (97 ≤ b.toNat) && decide (b.toNat ≤ 122)) || (decide (65 ≤ b.toNat) && decide (b.toNat ≤ 90))) := rfl
    have bad : letterB b = false → cfKeyed l = false := fun h => by
      unfold cfKeyed; rw [← hall, h]; simp
    have good : letterB b = true → (l.drop (i + 1)).all letterB = l.all letterB := fun h => by
      rw [h, Bool.true_and] at hall; exact hall
    cases d1 : decide (97 ≤ b.toNat) <;> cases d2 : decide (b.toNat ≤ 122) <;> cases d3 : decide (65 ≤ b.toNat) <;> cases d4 : decide (b.toNat ≤ 90)
    all_goals
      rw [d1, d2, d3, d4] at hlb
      first
      | (rw [bad hlb]
         simp only [go_sem, d0, hg, ei, toB_size, d1, d2, d3, d4, ↓reduceIte, Nat.reduceEqDiff, Nat.reduceAdd, Nat.reduceLeDiff, reduceCtorEq, Nat.reduceLT, Int.reduceLT, Int.reduceLE, Int.reduceEq, Int.reduceToNat, Nat.reduceMul]
         refine wends (by first | exact Or.inl rfl | exact Or.inr rfl) ?_ (by first | rfl | simp [AV.ids, idsL])
         simp only [go_sem, r_ref11_keyed, ↓reduceIte, Nat.reduceEqDiff, Nat.reduceAdd, Nat.reduceLeDiff, reduceCtorEq, Nat.reduceLT, Int.reduceLT, Int.reduceLE, Int.reduceEq, Int.reduceToNat, Nat.reduceMul]
         done)
      | (have hgd := good hlb
         simp only [go_sem, d0, hg, ei, toB_size, d1, d2, d3, d4, ↓reduceIte, Nat.reduceEqDiff, Nat.reduceAdd, Nat.reduceLeDiff, reduceCtorEq, Nat.reduceLT, Int.reduceLT, Int.reduceLE, Int.reduceEq, Int.reduceToNat, Nat.reduceMul]
         exact rd_of (i + 1) (by first | omega | (simp only; omega)) ⟨hil, hgd⟩ (subL [] [] (by simp [envS, go_sem, wkV, wkL, AV.ids, idsL, keysOf, ren, stoOf, slTrees, AV.asOwn, rowPart, AV.isNil, shA, rowsT, cellsT, cellT, wkLL] <;> assumption) (by simp [stoS, go_sem, wkV, wkL, wkO, AV.ids, Ob.ids, idsL, keysOf, ren, AV.one, stoOf, slTrees, AV.asOwn, rowPart, AV.isNil, shA, rowsT, cellsT, cellT, wkLL] <;> assumption) (by simp [keysOf, ren]) (by simp [stoOf, keysOf, ren]) (by simp [keysOf, ren]) (by simp [keysOf, ren])))
  · obtain rfl : i = l.length := by omega
    have d0 : decide (l.length < l.length) = false := decide_eq_false (by omega)
    rw [List.drop_length, List.all_nil] at hall
    have hk : cfKeyed l = (decide (1 ≤ l.length) && decide (l.length ≤ 32)) := by unfold cfKeyed; rw [← hall]; simp
    have d3 : decide ((l.length : Int) ≤ 32) = decide (l.length ≤ 32) := decide_eq_decide.2 (by omega)
    have d4 : decide ((1 : Int) ≤ (l.length : Int)) = decide (1 ≤ l.length) := decide_eq_decide.2 (by omega)
    rw [hk]
    cases h1 : decide (1 ≤ l.length)
    · simp only [go_sem, d0, toB_size, d4, h1, ↓reduceIte, Nat.reduceEqDiff, Nat.reduceAdd, Nat.reduceLeDiff, reduceCtorEq, Nat.reduceLT, Int.reduceLT, Int.reduceLE, Int.reduceEq, Int.reduceToNat, Nat.reduceMul]
      refine wends (by first | exact Or.inl rfl | exact Or.inr rfl) ?_ (by first | rfl | simp [AV.ids, idsL])
      simp only [go_sem, r_ref11_keyed, ↓reduceIte, Nat.reduceEqDiff, Nat.reduceAdd, Nat.reduceLeDiff, reduceCtorEq, Nat.reduceLT, Int.reduceLT, Int.reduceLE, Int.reduceEq, Int.reduceToNat, Nat.reduceMul]
      first | done | rfl
    · simp only [go_sem, d0, toB_size, d4, h1, d3, ↓reduceIte, Nat.reduceEqDiff, Nat.reduceAdd, Nat.reduceLeDiff, reduceCtorEq, Nat.reduceLT, Int.reduceLT, Int.reduceLE, Int.reduceEq, Int.reduceToNat, Nat.reduceMul]
      refine wends (by first | exact Or.inl rfl | exact Or.inr rfl) ?_ (by first | rfl | simp [AV.ids, idsL])
      simp only [go_sem, r_ref11_keyed, ↓reduceIte, Nat.reduceEqDiff, Nat.reduceAdd, Nat.reduceLeDiff, reduceCtorEq, Nat.reduceLT, Int.reduceLT, Int.reduceLE, Int.reduceEq, Int.reduceToNat, Nat.reduceMul]
      first | done | rfl

/-- A line's key and value, the document's way. -/
def cfCut (l : List UInt8) : CfPair × Bool := if 0 ≤ Lib.indexByte l 61 then cfPair l else (([], []), false)

theorem index_drop (c : UInt8) : ∀ (l : List UInt8) (i : Nat), i ≤ l.length → (∀ j b, j < i → l[j]? = some b → b ≠ c) → (Lib.indexByte (l.drop i) c < 0 → Lib.indexByte l c < 0) ∧ (0 ≤ Lib.indexByte (l.drop i) c → Lib.indexByte l c = Lib.indexByte (l.drop i) c + i)
  | l, 0, _, _ => by simp
  | [], i + 1, h, _ => by simp at h
  | b :: l, i + 1, h, hn => by
    have hb : ¬ b = c := hn 0 b (by omega) rfl
    have ih := index_drop c l i (by simpa using h) (fun j x hj hx => hn (j + 1) x (by omega) (by simpa using hx))
    have hge := Lib.indexByte_ge l c
    have hb' : (b == c) = false := by simpa using hb
    simp only [List.drop_succ_cons]
    have e : Lib.indexByte (b :: l) c = if Lib.indexByte l c = -1 then -1 else Lib.indexByte l c + 1 := by
      simp only [Lib.indexByte, hb']
      by_cases hi : Lib.indexByte l c = -1
      · simp [hi]
      · have hi' : (Lib.indexByte l c == -1) = false := by simpa using hi
        simp [hi', hi]
    rw [e]
    constructor
    · intro h1
      have := ih.1 h1
      rw [if_pos (by omega)]; omega
    · intro h1
      have := ih.2 h1
      rw [if_neg (by omega)]; omega

theorem f_ref11_cut (l : List UInt8) (hl : l.length ≤ 1000000000) : Meets Tryd.prog E0 n_ref11_cut [Str (toB l)] [] (.tp [.ag [Str (toB (cfCut l).1.1), Str (toB (cfCut l).1.2)], Bo (cfCut l).2]) [] := by
  refine m_ref11_cut (by simp) (shut0 rfl) (shut0 rfl) (by simp) (by simp [keysOf]) ?_
  simp only [go_sem, s_ref11_cut, ↓reduceIte, Nat.reduceEqDiff, Nat.reduceAdd, Nat.reduceLeDiff, reduceCtorEq, Nat.reduceLT, Int.reduceLT, Int.reduceLE, Int.reduceEq, Int.reduceToNat, Nat.reduceMul]
  refine W_loop (fun i : Nat => l.length - i) (fun i => i ≤ l.length ∧ ∀ j b, j < i → l[j]? = some b → b ≠ 61) (fun i => [(0, Str (toB l)), (2, .ptr 100 0), (3, Bo false), (4, I i)]) (fun _ => [(100, .box [Str (bs []), Str (bs [])])]) 0 ⟨Nat.zero_le _, fun j b h => absurd h (by omega)⟩ ?_ ?_
  · exact (subL [] [] (by simp [envS, go_sem, wkV, wkL, AV.ids, idsL, keysOf, ren, stoOf, slTrees, AV.asOwn, rowPart, AV.isNil, shA, rowsT, cellsT, cellT, wkLL] <;> assumption) (by simp [stoS, go_sem, wkV, wkL, wkO, AV.ids, Ob.ids, idsL, keysOf, ren, AV.one, stoOf, slTrees, AV.asOwn, rowPart, AV.isNil, shA, rowsT, cellsT, cellT, wkLL] <;> assumption) (by simp [keysOf, ren]) (by simp [stoOf, keysOf, ren]) (by simp [keysOf, ren]) (by simp [keysOf, ren]))
  · rintro i ⟨hi, hno⟩
    have hix := index_drop 61 l i hi hno
    by_cases hil : i < l.length
    · have d0 : decide (i < l.length) = true := decide_eq_true hil
      obtain ⟨b, hb⟩ := get_of_lt hil
      have hg : (toB l)[i]? = some b := by rw [getT]; exact hb
      have ei : IntKind.i64.wrap ((i : Int) + 1) = ((i + 1 : Nat) : Int) := by rw [wrap_i64_of (by omega) (by omega)]; omega
      by_cases h61 : b = 61
      · subst h61
        have hz : Lib.indexByte (l.drop i) 61 = 0 := by rw [drop_get hb]; simp [Lib.indexByte]
        have hI : Lib.indexByte l 61 = i := by rw [hix.2 (by omega), hz]; omega
        have hv : cfCut l = ((cfTrim (l.take i), cfTrim (l.drop (i + 1))), cfKeyed (cfTrim (l.take i))) := by
          unfold cfCut cfPair
          rw [hI, if_pos (by omega), if_pos (by omega)]
          simp only [Int.toNat_natCast]
        rw [hv]
        have d1 : decide (UInt8.toNat 61 = 61) = true := rfl
        have h1 := f_ref11_Trim (l.take i) (by simp; omega)
        have h2 := f_ref11_Trim (l.drop (i + 1)) (by simp; omega)
        have z1 := trimS_len (l.take i) [32, 9]
        have h3 := f_ref11_keyed (cfTrim (l.take i)) (by unfold cfTrim; simp at z1; omega)
        have e1 : (toB l).extract 0 i = toB (l.take i) := by rw [extT]; rfl
        have e2 : (toB l).extract (i + 1) l.length = toB (l.drop (i + 1)) := by rw [extT, List.take_length]
        have c1 : ((i : Int) ≤ (l.length : Int)) = True := eq_true (by omega)
        have c2 : (((i + 1 : Nat) : Int) ≤ (l.length : Int)) = True := eq_true (by omega)
        simp only [go_sem, d0, hg, d1, toB_size, c1, e1, ↓reduceIte, Nat.reduceEqDiff, Nat.reduceAdd, Nat.reduceLeDiff, reduceCtorEq, Nat.reduceLT, Int.reduceLT, Int.reduceLE, Int.reduceEq, Int.reduceToNat, Nat.reduceMul]
        refine Cl_plain h1 ?_
        simp only [go_sem, ei, toB_size, c2, e2, ↓reduceIte, Nat.reduceEqDiff, Nat.reduceAdd, Nat.reduceLeDiff, reduceCtorEq, Nat.reduceLT, Int.reduceLT, Int.reduceLE, Int.reduceEq, Int.reduceToNat, Nat.reduceMul]
        refine Cl_plain h2 ?_
        simp only [go_sem, ↓reduceIte, Nat.reduceEqDiff, Nat.reduceAdd, Nat.reduceLeDiff, reduceCtorEq, Nat.reduceLT, Int.reduceLT, Int.reduceLE, Int.reduceEq, Int.reduceToNat, Nat.reduceMul]
        ((try (with_reducible refine R_fin (by repeat' (first | exact okp0 | refine okp rfl rfl rfl ?_)) ?_)); (try simp only [go_sem, ↓reduceIte, Nat.reduceEqDiff, Nat.reduceAdd, Nat.reduceLeDiff, reduceCtorEq, Nat.reduceLT, Int.reduceLT, Int.reduceLE, Int.reduceEq, Int.reduceToNat, Nat.reduceMul]))
        refine Cl_plain h3 ?_
        simp only [go_sem, ↓reduceIte, Nat.reduceEqDiff, Nat.reduceAdd, Nat.reduceLeDiff, reduceCtorEq, Nat.reduceLT, Int.reduceLT, Int.reduceLE, Int.reduceEq, Int.reduceToNat, Nat.reduceMul]
        ((try (with_reducible refine R_fin (by repeat' (first | exact okp0 | refine okp rfl rfl rfl ?_)) ?_)); (try simp only [go_sem, ↓reduceIte, Nat.reduceEqDiff, Nat.reduceAdd, Nat.reduceLeDiff, reduceCtorEq, Nat.reduceLT, Int.reduceLT, Int.reduceLE, Int.reduceEq, Int.reduceToNat, Nat.reduceMul]))
        refine wends (by first | exact Or.inl rfl | exact Or.inr rfl) ?_ (by first | rfl | simp [AV.ids, idsL])
        simp only [go_sem, r_ref11_cut, ↓reduceIte, Nat.reduceEqDiff, Nat.reduceAdd, Nat.reduceLeDiff, reduceCtorEq, Nat.reduceLT, Int.reduceLT, Int.reduceLE, Int.reduceEq, Int.reduceToNat, Nat.reduceMul]
      · have d1 : decide (b.toNat = 61) = false := decide_eq_false (fun e => h61 (UInt8.toNat_inj.1 e))
        simp only [go_sem, d0, hg, d1, ei, toB_size, ↓reduceIte, Nat.reduceEqDiff, Nat.reduceAdd, Nat.reduceLeDiff, reduceCtorEq, Nat.reduceLT, Int.reduceLT, Int.reduceLE, Int.reduceEq, Int.reduceToNat, Nat.reduceMul]
        refine rd_of (i + 1) (by first | omega | (simp only; omega)) ⟨hil, fun j x hj hx => ?_⟩ (subL [] [] (by simp [envS, go_sem, wkV, wkL, AV.ids, idsL, keysOf, ren, stoOf, slTrees, AV.asOwn, rowPart, AV.isNil, shA, rowsT, cellsT, cellT, wkLL] <;> assumption) (by simp [stoS, go_sem, wkV, wkL, wkO, AV.ids, Ob.ids, idsL, keysOf, ren, AV.one, stoOf, slTrees, AV.asOwn, rowPart, AV.isNil, shA, rowsT, cellsT, cellT, wkLL] <;> assumption) (by simp [keysOf, ren]) (by simp [stoOf, keysOf, ren]) (by simp [keysOf, ren]) (by simp [keysOf, ren]))
        rcases Nat.lt_or_ge j i with h | h
        · exact hno j x h hx
        · obtain rfl : j = i := by omega
          rw [hb] at hx; injection hx with hx; subst hx; exact h61
    · obtain rfl : i = l.length := by omega
      have d0 : decide (l.length < l.length) = false := decide_eq_false (by omega)
      have hneg : Lib.indexByte l 61 < 0 := hix.1 (by rw [List.drop_length]; simp [Lib.indexByte])
      have hv : cfCut l = (([], []), false) := by unfold cfCut; rw [if_neg (by omega)]
      rw [hv]
      simp only [show toB [] = bs [] from rfl]
      simp only [go_sem, d0, toB_size, ↓reduceIte, Nat.reduceEqDiff, Nat.reduceAdd, Nat.reduceLeDiff, reduceCtorEq, Nat.reduceLT, Int.reduceLT, Int.reduceLE, Int.reduceEq, Int.reduceToNat, Nat.reduceMul]
      refine wends (by first | exact Or.inl rfl | exact Or.inr rfl) ?_ (by first | rfl | simp [AV.ids, idsL])
      simp only [go_sem, r_ref11_cut, ↓reduceIte, Nat.reduceEqDiff, Nat.reduceAdd, Nat.reduceLeDiff, reduceCtorEq, Nat.reduceLT, Int.reduceLT, Int.reduceLE, Int.reduceEq, Int.reduceToNat, Nat.reduceMul]

end Go.Proofs.YtbkchhjdjijhkaaDoor
