/- Contracts of the document's finding of a pattern. No statement of the seat is proved here. -/
import Derived.Test.YtgnokggmbkhnbaaNdFind
set_option linter.unusedSimpArgs false
set_option linter.unusedVariables false
namespace Go.Proofs.Ytgnokggmbkhnbaa
open Go Go.Sx

/-- A list whose first values are known, the others false. -/
def partL (E : Nat → Bool) (n k : Nat) : List Bool := (List.range n).map fun i => decide (i < k) && E i

theorem partL_zero (E : Nat → Bool) (n : Nat) : partL E n 0 = List.replicate n false := by
  apply List.ext_getElem?
  intro i
  simp only [partL, List.getElem?_map, List.getElem?_replicate, List.getElem?_range']
  by_cases h : i < n
  · simp [List.getElem?_range, h]
  · simp [List.getElem?_eq_none, h]

theorem partL_len (E : Nat → Bool) (n k : Nat) : (partL E n k).length = n := by simp [partL]

theorem partL_get (E : Nat → Bool) (n k i : Nat) (h : i < n) : (partL E n k)[i]? = some (decide (i < k) && E i) := by
  simp [partL, List.getElem?_range, h]

theorem partL_set (E : Nat → Bool) (n k : Nat) (x : Bool) (hk : k < n) (h : E k = x) : (partL E n k).set k x = partL E n (k + 1) := by
  subst h
  apply List.ext_getElem?
  intro i
  rw [List.getElem?_set]
  by_cases hi : i < n
  · rw [partL_get E n (k + 1) i hi, partL_get E n k i hi]
    by_cases e : k = i
    · subst e; simp [partL_len, hk]
    · rw [if_neg e]
      congr 2
      rw [decide_eq_decide]; omega
  · rw [List.getElem?_eq_none (l := partL E n (k + 1)) (by rw [partL_len]; omega), List.getElem?_eq_none (l := partL E n k) (by rw [partL_len]; omega)]
    by_cases e : k = i
    · omega
    · rw [if_neg e]

theorem partT_get (E : Nat → Bool) (n k i : Nat) (h : i < n) : ((partL E n k).map bT)[i]? = some (bT (decide (i < k) && E i)) := by
  rw [List.getElem?_map, partL_get E n k i h]; rfl

theorem partT_set (E : Nat → Bool) (n k : Nat) (x : Bool) (hk : k < n) (h : E k = x) : ((partL E n k).map bT).set k (bT x) = (partL E n (k + 1)).map bT := by
  rw [← List.map_set, partL_set E n k x hk h]

theorem nextE_star0 (f E : Nat → Bool) : nextE true f E 0 = E 0 := by simp [nextE]
theorem nextE_star (f E : Nat → Bool) (k : Nat) : nextE true f E (k + 1) = (E (k + 1) || (nextE true f E k && f k)) := by simp [nextE]
theorem nextE_one0 (f E : Nat → Bool) : nextE false f E 0 = false := by simp [nextE]
theorem nextE_one (f E : Nat → Bool) (k : Nat) : nextE false f E (k + 1) = (E k && f k) := by simp [nextE]

theorem endsE_snoc (a : Bool) (tx : List UInt8) : ∀ (is : List Item) (x : Item) (E : Nat → Bool), endsE a tx (is ++ [x]) E = nextE x.2 (fitTx tx x.1) (endsE a tx is E)
  | [], x, E => rfl
  | y :: is, x, E => by simp only [List.cons_append, endsE]; exact endsE_snoc a tx is x _

theorem take_snoc {α : Type} {l : List α} {i : Nat} {x : α} (h : l[i]? = some x) : l.take (i + 1) = l.take i ++ [x] := by
  rw [List.take_add_one, h]; rfl

theorem fitTx_get {tx : ByteArray} {k : Nat} {c : UInt8} (h : tx.data.toList[k]? = some c) (n : Nat) : fitTx tx.data.toList n k = n.testBit c.toNat := by
  simp [fitTx, h]

theorem f_ref09_Found (a z : Bool) (is : List Item) (hn : is.length ≤ 100000) (tx : ByteArray) (ht : tx.size < 70368744177664) : Meets Try.prog E0 n_ref09_Found [needleV a z is, .t (.v (.string tx))] [] (Bo (refM a z is tx.data.toList)) [] := by
  refine m_ref09_Found (by simp) (shut0 rfl) (shut0 rfl) (by simp) (by simp [keysOf]) ?_
  have b1 : ((1 : Nat) : Int) * ((tx.size + 1 : Nat) : Int) ≤ 2 ^ 48 := by omega
  have b2 : ((tx.size + 1 : Nat) : Int) < 2 ^ 47 := by omega
  have ei : IntKind.i64.wrap ((tx.size : Int) + 1) = ((tx.size + 1 : Nat) : Int) := by rw [wrap_i64_of (by omega) (by omega)]; omega
  have e0 : ∀ E, List.replicate (tx.size + 1) [T.v (.bool false)] = (partL E (tx.size + 1) 0).map bT := by intro E; rw [partL_zero]; simp
  simp only [go_sem, s_ref09_Found, ei, b1, b2, ↓reduceIte, Nat.reduceEqDiff, Nat.reduceAdd, Nat.reduceLeDiff, reduceCtorEq, Int.natCast_nonneg, List.getElem?_map, Int.toNat_natCast, List.length_map, List.replicate_zero, Bool.bne_false, Bool.bne_true, Nat.reduceLT, Int.reduceLT, Int.reduceLE, Int.reduceEq, Int.reduceToNat, List.length_replicate, List.isEmpty_cons, List.isEmpty_nil, Nat.le_refl, Int.le_refl, Int.sub_zero, Int.sub_self, ne_eq, List.length_append, Int.toNat_zero, Nat.zero_mul, Nat.mul_one, Nat.one_mul, Nat.reduceMul]
  rw [e0 (firstE a)]
  refine W_loop (fun k : Nat => tx.size + 1 - k) (fun k => k ≤ tx.size + 1)
    (fun k => [(1, .t (.v (.string tx))), (2, .ptr 100 0), (5, .own 105 1 0 (tx.size + 1) true), (6, I k)])
    (fun k => [(100, .box [Bo a, Bo z, itemsV is]), (105, .row 1 true ((partL (firstE a) (tx.size + 1) k).map bT))])
    0 (by omega) ?_ ?_
  · exact (subL [] [] (by simp [envS, go_sem, wkV, wkL, AV.ids, idsL, keysOf, ren, stoOf, slTrees, AV.asOwn, rowPart, AV.isNil, setL, pst] <;> assumption) (by simp [stoS, go_sem, wkV, wkL, wkO, AV.ids, Ob.ids, idsL, keysOf, ren, AV.one, stoOf, slTrees, AV.asOwn, rowPart, AV.isNil, setL, pst] <;> assumption) (by simp [keysOf, ren]) (by simp [stoOf, keysOf, ren]) (by simp [keysOf, ren]) (by simp [keysOf, ren]))
  · intro k hk
    simp only [go_sem, s_ref09_Found_b0, ↓reduceIte, Nat.reduceEqDiff, Nat.reduceAdd, Nat.reduceLeDiff, reduceCtorEq, Int.natCast_nonneg, List.getElem?_map, Int.toNat_natCast, List.length_map, List.replicate_zero, Bool.bne_false, Bool.bne_true, Nat.reduceLT, Int.reduceLT, Int.reduceLE, Int.reduceEq, Int.reduceToNat, List.length_replicate, List.isEmpty_cons, List.isEmpty_nil, Nat.le_refl, Int.le_refl, Int.sub_zero, Int.sub_self, ne_eq, List.length_append, Int.toNat_zero, Nat.zero_mul, Nat.mul_one, Nat.one_mul, Nat.reduceMul]
    refine W_split rfl (fun h1 => ?_) (fun h1 => ?_)
    · simp at h1
      have ek : IntKind.i64.wrap ((k : Int) + 1) = ((k + 1 : Nat) : Int) := by rw [wrap_i64_of (by omega) (by omega)]; omega
      have q1 : (k : Int) < ((tx.size + 1 : Nat) : Int) := by omega
      have hg := partT_get (firstE a) (tx.size + 1) k k (by omega)
      have hs := partT_set (firstE a) (tx.size + 1) k (!a || decide (k = 0)) (by omega) rfl
      cases ha : a
      · simp only [ha, Bool.not_false, Bool.true_or] at hs hg
        simp only [go_sem, q1, hg, hs, ek, ↓reduceIte, Nat.reduceEqDiff, Nat.reduceAdd, Nat.reduceLeDiff, reduceCtorEq, Int.natCast_nonneg, List.getElem?_map, Int.toNat_natCast, List.length_map, List.replicate_zero, Bool.bne_false, Bool.bne_true, Nat.reduceLT, Int.reduceLT, Int.reduceLE, Int.reduceEq, Int.reduceToNat, List.length_replicate, List.isEmpty_cons, List.isEmpty_nil, Nat.le_refl, Int.le_refl, Int.sub_zero, Int.sub_self, ne_eq, List.length_append, Int.toNat_zero, Nat.zero_mul, Nat.mul_one, Nat.one_mul, Nat.reduceMul]
        refine rd_of (k + 1) (by first | omega | (simp only; omega)) (by first | omega | (simp only; omega)) ?_
        exact (subL [] [] (by simp [envS, go_sem, wkV, wkL, AV.ids, idsL, keysOf, ren, stoOf, slTrees, AV.asOwn, rowPart, AV.isNil, setL, pst] <;> assumption) (by simp [stoS, go_sem, wkV, wkL, wkO, AV.ids, Ob.ids, idsL, keysOf, ren, AV.one, stoOf, slTrees, AV.asOwn, rowPart, AV.isNil, setL, pst] <;> assumption) (by simp [keysOf, ren]) (by simp [stoOf, keysOf, ren]) (by simp [keysOf, ren]) (by simp [keysOf, ren]))
      · simp only [ha, Bool.not_true, Bool.false_or] at hs hg
        simp only [go_sem, q1, hg, hs, ek, ↓reduceIte, Nat.reduceEqDiff, Nat.reduceAdd, Nat.reduceLeDiff, reduceCtorEq, Int.natCast_nonneg, List.getElem?_map, Int.toNat_natCast, List.length_map, List.replicate_zero, Bool.bne_false, Bool.bne_true, Nat.reduceLT, Int.reduceLT, Int.reduceLE, Int.reduceEq, Int.reduceToNat, List.length_replicate, List.isEmpty_cons, List.isEmpty_nil, Nat.le_refl, Int.le_refl, Int.sub_zero, Int.sub_self, ne_eq, List.length_append, Int.toNat_zero, Nat.zero_mul, Nat.mul_one, Nat.one_mul, Nat.reduceMul]
        refine rd_of (k + 1) (by first | omega | (simp only; omega)) (by first | omega | (simp only; omega)) ?_
        exact (subL [] [] (by simp [envS, go_sem, wkV, wkL, AV.ids, idsL, keysOf, ren, stoOf, slTrees, AV.asOwn, rowPart, AV.isNil, setL, pst] <;> assumption) (by simp [stoS, go_sem, wkV, wkL, wkO, AV.ids, Ob.ids, idsL, keysOf, ren, AV.one, stoOf, slTrees, AV.asOwn, rowPart, AV.isNil, setL, pst] <;> assumption) (by simp [keysOf, ren]) (by simp [stoOf, keysOf, ren]) (by simp [keysOf, ren]) (by simp [keysOf, ren]))
    · simp at h1
      have e : k = tx.size + 1 := by omega
      subst e
      simp only [go_sem, s_ref09_Found_t8, ↓reduceIte, Nat.reduceEqDiff, Nat.reduceAdd, Nat.reduceLeDiff, reduceCtorEq, Int.natCast_nonneg, List.getElem?_map, Int.toNat_natCast, List.length_map, List.replicate_zero, Bool.bne_false, Bool.bne_true, Nat.reduceLT, Int.reduceLT, Int.reduceLE, Int.reduceEq, Int.reduceToNat, List.length_replicate, List.isEmpty_cons, List.isEmpty_nil, Nat.le_refl, Int.le_refl, Int.sub_zero, Int.sub_self, ne_eq, List.length_append, Int.toNat_zero, Nat.zero_mul, Nat.mul_one, Nat.one_mul, Nat.reduceMul]
      generalize hL : tx.data.toList = L at *
      refine W_loop (fun j : Nat => is.length - j) (fun j => j ≤ is.length)
        (fun j => [(1, .t (.v (.string tx))), (2, .ptr 100 0), (5, .own 999 1 0 (tx.size + 1) true), (7, I j)])
        (fun j => [(100, .box [Bo a, Bo z, itemsV is]), (999, .row 1 true ((partL (endsE a L (is.take j) (firstE a)) (tx.size + 1) (tx.size + 1)).map bT))])
        0 (by omega) ?_ ?_
      · rw [show is.take 0 = [] from rfl, show endsE a L [] (firstE a) = firstE a from rfl]
        exact (subL [(999, 105)] [] (by simp [envS, go_sem, wkV, wkL, AV.ids, idsL, keysOf, ren, stoOf, slTrees, AV.asOwn, rowPart, AV.isNil, setL, pst] <;> assumption) (by simp [stoS, go_sem, wkV, wkL, wkO, AV.ids, Ob.ids, idsL, keysOf, ren, AV.one, stoOf, slTrees, AV.asOwn, rowPart, AV.isNil, setL, pst] <;> assumption) (by simp [keysOf, ren]) (by simp [stoOf, keysOf, ren]) (by simp [keysOf, ren]) (by simp [keysOf, ren]))
      · intro j hj
        simp only [go_sem, s_ref09_Found_b4, ↓reduceIte, Nat.reduceEqDiff, Nat.reduceAdd, Nat.reduceLeDiff, reduceCtorEq, Int.natCast_nonneg, List.getElem?_map, Int.toNat_natCast, List.length_map, List.replicate_zero, Bool.bne_false, Bool.bne_true, Nat.reduceLT, Int.reduceLT, Int.reduceLE, Int.reduceEq, Int.reduceToNat, List.length_replicate, List.isEmpty_cons, List.isEmpty_nil, Nat.le_refl, Int.le_refl, Int.sub_zero, Int.sub_self, ne_eq, List.length_append, Int.toNat_zero, Nat.zero_mul, Nat.mul_one, Nat.one_mul, Nat.reduceMul]
        refine W_split rfl (fun h2 => ?_) (fun h2 => ?_)
        · simp at h2
          obtain ⟨x, hx⟩ := get_of_lt h2
          have ej : IntKind.i64.wrap ((j : Int) + 1) = ((j + 1 : Nat) : Int) := by rw [wrap_i64_of (by omega) (by omega)]; omega
          have hnx : endsE a L (is.take (j + 1)) (firstE a) = nextE x.2 (fitTx L x.1) (endsE a L (is.take j) (firstE a)) := by
            rw [take_snoc hx, endsE_snoc]
          generalize endsE a L (is.take j) (firstE a) = E at *
          generalize hE : nextE x.2 (fitTx L x.1) E = E' at *
          simp only [go_sem, ei, b1, b2, e0 E', ↓reduceIte, Nat.reduceEqDiff, Nat.reduceAdd, Nat.reduceLeDiff, reduceCtorEq, Int.natCast_nonneg, List.getElem?_map, Int.toNat_natCast, List.length_map, List.replicate_zero, Bool.bne_false, Bool.bne_true, Nat.reduceLT, Int.reduceLT, Int.reduceLE, Int.reduceEq, Int.reduceToNat, List.length_replicate, List.isEmpty_cons, List.isEmpty_nil, Nat.le_refl, Int.le_refl, Int.sub_zero, Int.sub_self, ne_eq, List.length_append, Int.toNat_zero, Nat.zero_mul, Nat.mul_one, Nat.one_mul, Nat.reduceMul]
          refine W_loop (fun k : Nat => tx.size + 1 - k) (fun k => k ≤ tx.size + 1)
            (fun k => [(1, .t (.v (.string tx))), (2, .ptr 100 0), (5, .own 999 1 0 (tx.size + 1) true), (7, I j), (8, .own 135 1 0 (tx.size + 1) true), (9, I k)])
            (fun k => [(100, .box [Bo a, Bo z, itemsV is]), (999, .row 1 true ((partL E (tx.size + 1) (tx.size + 1)).map bT)), (135, .row 1 true ((partL E' (tx.size + 1) k).map bT))])
            0 (by omega) ?_ ?_
          · exact (subL [] [] (by simp [envS, go_sem, wkV, wkL, AV.ids, idsL, keysOf, ren, stoOf, slTrees, AV.asOwn, rowPart, AV.isNil, setL, pst] <;> assumption) (by simp [stoS, go_sem, wkV, wkL, wkO, AV.ids, Ob.ids, idsL, keysOf, ren, AV.one, stoOf, slTrees, AV.asOwn, rowPart, AV.isNil, setL, pst] <;> assumption) (by simp [keysOf, ren]) (by simp [stoOf, keysOf, ren]) (by simp [keysOf, ren]) (by simp [keysOf, ren]))
          · intro k hk
            simp only [go_sem, s_ref09_Found_b1, ↓reduceIte, Nat.reduceEqDiff, Nat.reduceAdd, Nat.reduceLeDiff, reduceCtorEq, Int.natCast_nonneg, List.getElem?_map, Int.toNat_natCast, List.length_map, List.replicate_zero, Bool.bne_false, Bool.bne_true, Nat.reduceLT, Int.reduceLT, Int.reduceLE, Int.reduceEq, Int.reduceToNat, List.length_replicate, List.isEmpty_cons, List.isEmpty_nil, Nat.le_refl, Int.le_refl, Int.sub_zero, Int.sub_self, ne_eq, List.length_append, Int.toNat_zero, Nat.zero_mul, Nat.mul_one, Nat.one_mul, Nat.reduceMul]
            refine W_split rfl (fun h3 => ?_) (fun h3 => ?_)
            · simp at h3
              have ek : IntKind.i64.wrap ((k : Int) + 1) = ((k + 1 : Nat) : Int) := by rw [wrap_i64_of (by omega) (by omega)]; omega
              have q1 : (k : Int) < ((tx.size + 1 : Nat) : Int) := by omega
              have q2 : (j : Int) < (is.length : Int) := by omega
              have hg := partT_get E' (tx.size + 1) k k (by omega)
              have hgE := partT_get E (tx.size + 1) (tx.size + 1) k (by omega)
              rw [decide_eq_true (show k < tx.size + 1 by omega), Bool.true_and] at hgE
              have hs := fun v (hv : E' k = v) => partT_set E' (tx.size + 1) k v (by omega) hv
              cases hst : x.2
              · rw [hst] at hE
                cases k with
                | zero =>
                  have hv : E' 0 = false := by rw [← hE, nextE_one0]
                  simp only [go_sem, q1, q2, hx, itemT, hst, hg, hs _ hv, ek, show decide ((0 : Int) < ((0 : Nat) : Int)) = false from rfl, ↓reduceIte, Nat.reduceEqDiff, Nat.reduceAdd, Nat.reduceLeDiff, reduceCtorEq, Int.natCast_nonneg, List.getElem?_map, Int.toNat_natCast, List.length_map, List.replicate_zero, Bool.bne_false, Bool.bne_true, Nat.reduceLT, Int.reduceLT, Int.reduceLE, Int.reduceEq, Int.reduceToNat, List.length_replicate, List.isEmpty_cons, List.isEmpty_nil, Nat.le_refl, Int.le_refl, Int.sub_zero, Int.sub_self, ne_eq, List.length_append, Int.toNat_zero, Nat.zero_mul, Nat.mul_one, Nat.one_mul, Nat.reduceMul]
                  refine rd_of 1 (by first | omega | (simp only; omega)) (by first | omega | (simp only; omega)) ?_
                  exact (subL [] [] (by simp [envS, go_sem, wkV, wkL, AV.ids, idsL, keysOf, ren, stoOf, slTrees, AV.asOwn, rowPart, AV.isNil, setL, pst] <;> assumption) (by simp [stoS, go_sem, wkV, wkL, wkO, AV.ids, Ob.ids, idsL, keysOf, ren, AV.one, stoOf, slTrees, AV.asOwn, rowPart, AV.isNil, setL, pst] <;> assumption) (by simp [keysOf, ren]) (by simp [stoOf, keysOf, ren]) (by simp [keysOf, ren]) (by simp [keysOf, ren]))
                | succ m =>
                  obtain ⟨c, hc⟩ := get_of_lt (l := L) (i := m) (by rw [← hL, ba_len]; omega)
                  have hc2 : tx[m]? = some c := by rw [ba_get, hL]; exact hc
                  have hv : E' (m + 1) = (E m && x.1.testBit c.toNat) := by rw [← hE, nextE_one, ← hL, fitTx_get (by rw [hL]; exact hc)]
                  have hgm := partT_get E (tx.size + 1) (tx.size + 1) m (by omega)
                  rw [decide_eq_true (show m < tx.size + 1 by omega), Bool.true_and] at hgm
                  have e1 : IntKind.i64.wrap (((m + 1 : Nat) : Int) - 1) = ((m : Nat) : Int) := by rw [wrap_i64_of (by omega) (by omega)]; omega
                  have d1 : decide ((0 : Int) < ((m + 1 : Nat) : Int)) = true := decide_eq_true (by omega)
                  have q3 : (m : Int) < ((tx.size + 1 : Nat) : Int) := by omega
                  cases hEm : E m
                  · rw [hEm, Bool.false_and] at hv
                    simp only [go_sem, q1, q2, q3, hx, itemT, hst, hg, hs _ hv, ek, d1, e1, hgm, hEm, ↓reduceIte, Nat.reduceEqDiff, Nat.reduceAdd, Nat.reduceLeDiff, reduceCtorEq, Int.natCast_nonneg, List.getElem?_map, Int.toNat_natCast, List.length_map, List.replicate_zero, Bool.bne_false, Bool.bne_true, Nat.reduceLT, Int.reduceLT, Int.reduceLE, Int.reduceEq, Int.reduceToNat, List.length_replicate, List.isEmpty_cons, List.isEmpty_nil, Nat.le_refl, Int.le_refl, Int.sub_zero, Int.sub_self, ne_eq, List.length_append, Int.toNat_zero, Nat.zero_mul, Nat.mul_one, Nat.one_mul, Nat.reduceMul]
                    refine rd_of (m + 1 + 1) (by first | omega | (simp only; omega)) (by first | omega | (simp only; omega)) ?_
                    exact (subL [] [] (by simp [envS, go_sem, wkV, wkL, AV.ids, idsL, keysOf, ren, stoOf, slTrees, AV.asOwn, rowPart, AV.isNil, setL, pst] <;> assumption) (by simp [stoS, go_sem, wkV, wkL, wkO, AV.ids, Ob.ids, idsL, keysOf, ren, AV.one, stoOf, slTrees, AV.asOwn, rowPart, AV.isNil, setL, pst] <;> assumption) (by simp [keysOf, ren]) (by simp [stoOf, keysOf, ren]) (by simp [keysOf, ren]) (by simp [keysOf, ren]))
                  · rw [hEm, Bool.true_and] at hv
                    simp only [go_sem, q1, q2, q3, hx, itemT, hst, d1, e1, hgm, hEm, hc2, ↓reduceIte, Nat.reduceEqDiff, Nat.reduceAdd, Nat.reduceLeDiff, reduceCtorEq, Int.natCast_nonneg, List.getElem?_map, Int.toNat_natCast, List.length_map, List.replicate_zero, Bool.bne_false, Bool.bne_true, Nat.reduceLT, Int.reduceLT, Int.reduceLE, Int.reduceEq, Int.reduceToNat, List.length_replicate, List.isEmpty_cons, List.isEmpty_nil, Nat.le_refl, Int.le_refl, Int.sub_zero, Int.sub_self, ne_eq, List.length_append, Int.toNat_zero, Nat.zero_mul, Nat.mul_one, Nat.one_mul, Nat.reduceMul]
                    refine Cl_plain (f_ref09_Fits x.1 c.toNat false (u8_lt c)) ?_
                    simp only [go_sem, q1, hg, hs _ hv, ek, ↓reduceIte, Nat.reduceEqDiff, Nat.reduceAdd, Nat.reduceLeDiff, reduceCtorEq, Int.natCast_nonneg, List.getElem?_map, Int.toNat_natCast, List.length_map, List.replicate_zero, Bool.bne_false, Bool.bne_true, Nat.reduceLT, Int.reduceLT, Int.reduceLE, Int.reduceEq, Int.reduceToNat, List.length_replicate, List.isEmpty_cons, List.isEmpty_nil, Nat.le_refl, Int.le_refl, Int.sub_zero, Int.sub_self, ne_eq, List.length_append, Int.toNat_zero, Nat.zero_mul, Nat.mul_one, Nat.one_mul, Nat.reduceMul]
                    refine rd_of (m + 1 + 1) (by first | omega | (simp only; omega)) (by first | omega | (simp only; omega)) ?_
                    exact (subL [] [] (by simp [envS, go_sem, wkV, wkL, AV.ids, idsL, keysOf, ren, stoOf, slTrees, AV.asOwn, rowPart, AV.isNil, setL, pst] <;> assumption) (by simp [stoS, go_sem, wkV, wkL, wkO, AV.ids, Ob.ids, idsL, keysOf, ren, AV.one, stoOf, slTrees, AV.asOwn, rowPart, AV.isNil, setL, pst] <;> assumption) (by simp [keysOf, ren]) (by simp [stoOf, keysOf, ren]) (by simp [keysOf, ren]) (by simp [keysOf, ren]))
              · rw [hst] at hE
                cases k with
                | zero =>
                  have hv : E' 0 = E 0 := by rw [← hE, nextE_star0]
                  cases hE0 : E 0
                  · rw [hE0] at hv
                    simp only [go_sem, q1, q2, hx, itemT, hst, hg, hgE, hE0, hs _ hv, ek, show decide ((0 : Int) < ((0 : Nat) : Int)) = false from rfl, ↓reduceIte, Nat.reduceEqDiff, Nat.reduceAdd, Nat.reduceLeDiff, reduceCtorEq, Int.natCast_nonneg, List.getElem?_map, Int.toNat_natCast, List.length_map, List.replicate_zero, Bool.bne_false, Bool.bne_true, Nat.reduceLT, Int.reduceLT, Int.reduceLE, Int.reduceEq, Int.reduceToNat, List.length_replicate, List.isEmpty_cons, List.isEmpty_nil, Nat.le_refl, Int.le_refl, Int.sub_zero, Int.sub_self, ne_eq, List.length_append, Int.toNat_zero, Nat.zero_mul, Nat.mul_one, Nat.one_mul, Nat.reduceMul]
                    refine rd_of 1 (by first | omega | (simp only; omega)) (by first | omega | (simp only; omega)) ?_
                    exact (subL [] [] (by simp [envS, go_sem, wkV, wkL, AV.ids, idsL, keysOf, ren, stoOf, slTrees, AV.asOwn, rowPart, AV.isNil, setL, pst] <;> assumption) (by simp [stoS, go_sem, wkV, wkL, wkO, AV.ids, Ob.ids, idsL, keysOf, ren, AV.one, stoOf, slTrees, AV.asOwn, rowPart, AV.isNil, setL, pst] <;> assumption) (by simp [keysOf, ren]) (by simp [stoOf, keysOf, ren]) (by simp [keysOf, ren]) (by simp [keysOf, ren]))
                  · rw [hE0] at hv
                    simp only [go_sem, q1, q2, hx, itemT, hst, hg, hgE, hE0, hs _ hv, ek, ↓reduceIte, Nat.reduceEqDiff, Nat.reduceAdd, Nat.reduceLeDiff, reduceCtorEq, Int.natCast_nonneg, List.getElem?_map, Int.toNat_natCast, List.length_map, List.replicate_zero, Bool.bne_false, Bool.bne_true, Nat.reduceLT, Int.reduceLT, Int.reduceLE, Int.reduceEq, Int.reduceToNat, List.length_replicate, List.isEmpty_cons, List.isEmpty_nil, Nat.le_refl, Int.le_refl, Int.sub_zero, Int.sub_self, ne_eq, List.length_append, Int.toNat_zero, Nat.zero_mul, Nat.mul_one, Nat.one_mul, Nat.reduceMul]
                    refine rd_of 1 (by first | omega | (simp only; omega)) (by first | omega | (simp only; omega)) ?_
                    exact (subL [] [] (by simp [envS, go_sem, wkV, wkL, AV.ids, idsL, keysOf, ren, stoOf, slTrees, AV.asOwn, rowPart, AV.isNil, setL, pst] <;> assumption) (by simp [stoS, go_sem, wkV, wkL, wkO, AV.ids, Ob.ids, idsL, keysOf, ren, AV.one, stoOf, slTrees, AV.asOwn, rowPart, AV.isNil, setL, pst] <;> assumption) (by simp [keysOf, ren]) (by simp [stoOf, keysOf, ren]) (by simp [keysOf, ren]) (by simp [keysOf, ren]))
                | succ m =>
                  obtain ⟨c, hc⟩ := get_of_lt (l := L) (i := m) (by rw [← hL, ba_len]; omega)
                  have hc2 : tx[m]? = some c := by rw [ba_get, hL]; exact hc
                  have hv : E' (m + 1) = (E (m + 1) || (E' m && x.1.testBit c.toNat)) := by rw [← hE, nextE_star, ← hL, fitTx_get (by rw [hL]; exact hc)]
                  have hgm := partT_get E' (tx.size + 1) (m + 1) m (by omega)
                  rw [decide_eq_true (show m < m + 1 by omega), Bool.true_and] at hgm
                  have e1 : IntKind.i64.wrap (((m + 1 : Nat) : Int) - 1) = ((m : Nat) : Int) := by rw [wrap_i64_of (by omega) (by omega)]; omega
                  have d1 : decide ((0 : Int) < ((m + 1 : Nat) : Int)) = true := decide_eq_true (by omega)
                  have q3 : (m : Int) < ((tx.size + 1 : Nat) : Int) := by omega
                  cases hE0 : E (m + 1)
                  · rw [hE0, Bool.false_or] at hv
                    cases hEm : E' m
                    · rw [hEm, Bool.false_and] at hv
                      simp only [go_sem, q1, q2, q3, hx, itemT, hst, hg, hgE, hE0, hs _ hv, ek, d1, e1, hgm, hEm, ↓reduceIte, Nat.reduceEqDiff, Nat.reduceAdd, Nat.reduceLeDiff, reduceCtorEq, Int.natCast_nonneg, List.getElem?_map, Int.toNat_natCast, List.length_map, List.replicate_zero, Bool.bne_false, Bool.bne_true, Nat.reduceLT, Int.reduceLT, Int.reduceLE, Int.reduceEq, Int.reduceToNat, List.length_replicate, List.isEmpty_cons, List.isEmpty_nil, Nat.le_refl, Int.le_refl, Int.sub_zero, Int.sub_self, ne_eq, List.length_append, Int.toNat_zero, Nat.zero_mul, Nat.mul_one, Nat.one_mul, Nat.reduceMul]
                      refine rd_of (m + 1 + 1) (by first | omega | (simp only; omega)) (by first | omega | (simp only; omega)) ?_
                      exact (subL [] [] (by simp [envS, go_sem, wkV, wkL, AV.ids, idsL, keysOf, ren, stoOf, slTrees, AV.asOwn, rowPart, AV.isNil, setL, pst] <;> assumption) (by simp [stoS, go_sem, wkV, wkL, wkO, AV.ids, Ob.ids, idsL, keysOf, ren, AV.one, stoOf, slTrees, AV.asOwn, rowPart, AV.isNil, setL, pst] <;> assumption) (by simp [keysOf, ren]) (by simp [stoOf, keysOf, ren]) (by simp [keysOf, ren]) (by simp [keysOf, ren]))
                    · rw [hEm, Bool.true_and] at hv
                      simp only [go_sem, q1, q2, q3, hx, itemT, hst, hg, hgE, hE0, d1, e1, hgm, hEm, hc2, ↓reduceIte, Nat.reduceEqDiff, Nat.reduceAdd, Nat.reduceLeDiff, reduceCtorEq, Int.natCast_nonneg, List.getElem?_map, Int.toNat_natCast, List.length_map, List.replicate_zero, Bool.bne_false, Bool.bne_true, Nat.reduceLT, Int.reduceLT, Int.reduceLE, Int.reduceEq, Int.reduceToNat, List.length_replicate, List.isEmpty_cons, List.isEmpty_nil, Nat.le_refl, Int.le_refl, Int.sub_zero, Int.sub_self, ne_eq, List.length_append, Int.toNat_zero, Nat.zero_mul, Nat.mul_one, Nat.one_mul, Nat.reduceMul]
                      refine Cl_plain (f_ref09_Fits x.1 c.toNat true (u8_lt c)) ?_
                      simp only [go_sem, q1, hg, hs _ hv, ek, ↓reduceIte, Nat.reduceEqDiff, Nat.reduceAdd, Nat.reduceLeDiff, reduceCtorEq, Int.natCast_nonneg, List.getElem?_map, Int.toNat_natCast, List.length_map, List.replicate_zero, Bool.bne_false, Bool.bne_true, Nat.reduceLT, Int.reduceLT, Int.reduceLE, Int.reduceEq, Int.reduceToNat, List.length_replicate, List.isEmpty_cons, List.isEmpty_nil, Nat.le_refl, Int.le_refl, Int.sub_zero, Int.sub_self, ne_eq, List.length_append, Int.toNat_zero, Nat.zero_mul, Nat.mul_one, Nat.one_mul, Nat.reduceMul]
                      refine rd_of (m + 1 + 1) (by first | omega | (simp only; omega)) (by first | omega | (simp only; omega)) ?_
                      exact (subL [] [] (by simp [envS, go_sem, wkV, wkL, AV.ids, idsL, keysOf, ren, stoOf, slTrees, AV.asOwn, rowPart, AV.isNil, setL, pst] <;> assumption) (by simp [stoS, go_sem, wkV, wkL, wkO, AV.ids, Ob.ids, idsL, keysOf, ren, AV.one, stoOf, slTrees, AV.asOwn, rowPart, AV.isNil, setL, pst] <;> assumption) (by simp [keysOf, ren]) (by simp [stoOf, keysOf, ren]) (by simp [keysOf, ren]) (by simp [keysOf, ren]))
                  · rw [hE0, Bool.true_or] at hv
                    simp only [go_sem, q1, q2, hx, itemT, hst, hg, hgE, hE0, hs _ hv, ek, ↓reduceIte, Nat.reduceEqDiff, Nat.reduceAdd, Nat.reduceLeDiff, reduceCtorEq, Int.natCast_nonneg, List.getElem?_map, Int.toNat_natCast, List.length_map, List.replicate_zero, Bool.bne_false, Bool.bne_true, Nat.reduceLT, Int.reduceLT, Int.reduceLE, Int.reduceEq, Int.reduceToNat, List.length_replicate, List.isEmpty_cons, List.isEmpty_nil, Nat.le_refl, Int.le_refl, Int.sub_zero, Int.sub_self, ne_eq, List.length_append, Int.toNat_zero, Nat.zero_mul, Nat.mul_one, Nat.one_mul, Nat.reduceMul]
                    refine rd_of (m + 1 + 1) (by first | omega | (simp only; omega)) (by first | omega | (simp only; omega)) ?_
                    exact (subL [] [] (by simp [envS, go_sem, wkV, wkL, AV.ids, idsL, keysOf, ren, stoOf, slTrees, AV.asOwn, rowPart, AV.isNil, setL, pst] <;> assumption) (by simp [stoS, go_sem, wkV, wkL, wkO, AV.ids, Ob.ids, idsL, keysOf, ren, AV.one, stoOf, slTrees, AV.asOwn, rowPart, AV.isNil, setL, pst] <;> assumption) (by simp [keysOf, ren]) (by simp [stoOf, keysOf, ren]) (by simp [keysOf, ren]) (by simp [keysOf, ren]))
            · simp at h3
              have e : k = tx.size + 1 := by omega
              subst e
              simp only [go_sem, s_ref09_Found_t2, s_ref09_Found_t3, ej, ↓reduceIte, Nat.reduceEqDiff, Nat.reduceAdd, Nat.reduceLeDiff, reduceCtorEq, Int.natCast_nonneg, List.getElem?_map, Int.toNat_natCast, List.length_map, List.replicate_zero, Bool.bne_false, Bool.bne_true, Nat.reduceLT, Int.reduceLT, Int.reduceLE, Int.reduceEq, Int.reduceToNat, List.length_replicate, List.isEmpty_cons, List.isEmpty_nil, Nat.le_refl, Int.le_refl, Int.sub_zero, Int.sub_self, ne_eq, List.length_append, Int.toNat_zero, Nat.zero_mul, Nat.mul_one, Nat.one_mul, Nat.reduceMul]
              refine rd_of (j + 1) (by first | omega | (simp only; omega)) (by first | omega | (simp only; omega)) ?_
              rw [hnx]
              exact (subL [(999, 135)] [] (by simp [envS, go_sem, wkV, wkL, AV.ids, idsL, keysOf, ren, stoOf, slTrees, AV.asOwn, rowPart, AV.isNil, setL, pst] <;> assumption) (by simp [stoS, go_sem, wkV, wkL, wkO, AV.ids, Ob.ids, idsL, keysOf, ren, AV.one, stoOf, slTrees, AV.asOwn, rowPart, AV.isNil, setL, pst] <;> assumption) (by simp [keysOf, ren]) (by simp [stoOf, keysOf, ren]) (by simp [keysOf, ren]) (by simp [keysOf, ren]))
        · simp at h2
          have e : j = is.length := by omega
          subst e
          rw [List.take_length]
          generalize hE : endsE a L is (firstE a) = E
          have hrm : refM a z is L = (if z then E tx.size else (List.range (tx.size + 1)).any E) := by
            unfold refM; rw [hE, ← hL, ba_len]
          rw [hrm]
          have hgt : ∀ i, i < tx.size + 1 → ((partL E (tx.size + 1) (tx.size + 1)).map bT)[i]? = some (bT (E i)) := fun i hi => by
            rw [partT_get E _ _ i hi, decide_eq_true hi, Bool.true_and]
          cases hz : z
          · simp only [go_sem, s_ref09_Found_t7, hz, ↓reduceIte, Nat.reduceEqDiff, Nat.reduceAdd, Nat.reduceLeDiff, reduceCtorEq, Int.natCast_nonneg, List.getElem?_map, Int.toNat_natCast, List.length_map, List.replicate_zero, Bool.bne_false, Bool.bne_true, Nat.reduceLT, Int.reduceLT, Int.reduceLE, Int.reduceEq, Int.reduceToNat, List.length_replicate, List.isEmpty_cons, List.isEmpty_nil, Nat.le_refl, Int.le_refl, Int.sub_zero, Int.sub_self, ne_eq, List.length_append, Int.toNat_zero, Nat.zero_mul, Nat.mul_one, Nat.one_mul, Nat.reduceMul]
            refine W_loop (fun k : Nat => tx.size + 1 - k) (fun k => k ≤ tx.size + 1 ∧ ∀ i < k, E i = false)
              (fun k => [(1, .t (.v (.string tx))), (5, .own 999 1 0 (tx.size + 1) true), (10, I k)])
              (fun k => [(999, .row 1 true ((partL E (tx.size + 1) (tx.size + 1)).map bT))])
              0 ⟨by omega, by simp⟩ ?_ ?_
            · exact (subL [] [] (by simp [envS, go_sem, wkV, wkL, AV.ids, idsL, keysOf, ren, stoOf, slTrees, AV.asOwn, rowPart, AV.isNil, setL, pst] <;> assumption) (by simp [stoS, go_sem, wkV, wkL, wkO, AV.ids, Ob.ids, idsL, keysOf, ren, AV.one, stoOf, slTrees, AV.asOwn, rowPart, AV.isNil, setL, pst] <;> assumption) (by simp [keysOf, ren]) (by simp [stoOf, keysOf, ren]) (by simp [keysOf, ren]) (by simp [keysOf, ren]))
            · rintro k ⟨hk, hall⟩
              simp only [go_sem, s_ref09_Found_b5, ↓reduceIte, Nat.reduceEqDiff, Nat.reduceAdd, Nat.reduceLeDiff, reduceCtorEq, Int.natCast_nonneg, List.getElem?_map, Int.toNat_natCast, List.length_map, List.replicate_zero, Bool.bne_false, Bool.bne_true, Nat.reduceLT, Int.reduceLT, Int.reduceLE, Int.reduceEq, Int.reduceToNat, List.length_replicate, List.isEmpty_cons, List.isEmpty_nil, Nat.le_refl, Int.le_refl, Int.sub_zero, Int.sub_self, ne_eq, List.length_append, Int.toNat_zero, Nat.zero_mul, Nat.mul_one, Nat.one_mul, Nat.reduceMul]
              refine W_split rfl (fun h3 => ?_) (fun h3 => ?_)
              · simp at h3
                have q1 : (k : Int) < ((tx.size + 1 : Nat) : Int) := by omega
                have ek : IntKind.i64.wrap ((k : Int) + 1) = ((k + 1 : Nat) : Int) := by rw [wrap_i64_of (by omega) (by omega)]; omega
                cases hEk : E k
                · simp only [go_sem, q1, hgt k (by omega), hEk, ek, ↓reduceIte, Nat.reduceEqDiff, Nat.reduceAdd, Nat.reduceLeDiff, reduceCtorEq, Int.natCast_nonneg, List.getElem?_map, Int.toNat_natCast, List.length_map, List.replicate_zero, Bool.bne_false, Bool.bne_true, Nat.reduceLT, Int.reduceLT, Int.reduceLE, Int.reduceEq, Int.reduceToNat, List.length_replicate, List.isEmpty_cons, List.isEmpty_nil, Nat.le_refl, Int.le_refl, Int.sub_zero, Int.sub_self, ne_eq, List.length_append, Int.toNat_zero, Nat.zero_mul, Nat.mul_one, Nat.one_mul, Nat.reduceMul]
                  refine rd_of (k + 1) (by first | omega | (simp only; omega)) ⟨by first | omega | (simp only; omega), fun i hi => ?_⟩ ?_
                  · rcases Nat.lt_succ_iff_lt_or_eq.1 hi with h | h
                    · exact hall i h
                    · rw [h]; exact hEk
                  exact (subL [] [] (by simp [envS, go_sem, wkV, wkL, AV.ids, idsL, keysOf, ren, stoOf, slTrees, AV.asOwn, rowPart, AV.isNil, setL, pst] <;> assumption) (by simp [stoS, go_sem, wkV, wkL, wkO, AV.ids, Ob.ids, idsL, keysOf, ren, AV.one, stoOf, slTrees, AV.asOwn, rowPart, AV.isNil, setL, pst] <;> assumption) (by simp [keysOf, ren]) (by simp [stoOf, keysOf, ren]) (by simp [keysOf, ren]) (by simp [keysOf, ren]))
                · simp only [go_sem, q1, hgt k (by omega), hEk, ↓reduceIte, Nat.reduceEqDiff, Nat.reduceAdd, Nat.reduceLeDiff, reduceCtorEq, Int.natCast_nonneg, List.getElem?_map, Int.toNat_natCast, List.length_map, List.replicate_zero, Bool.bne_false, Bool.bne_true, Nat.reduceLT, Int.reduceLT, Int.reduceLE, Int.reduceEq, Int.reduceToNat, List.length_replicate, List.isEmpty_cons, List.isEmpty_nil, Nat.le_refl, Int.le_refl, Int.sub_zero, Int.sub_self, ne_eq, List.length_append, Int.toNat_zero, Nat.zero_mul, Nat.mul_one, Nat.one_mul, Nat.reduceMul]
                  refine wends (by first | exact Or.inl rfl | exact Or.inr rfl) ?_ (by first | rfl | simp [AV.ids, idsL])
                  simp only [go_sem, r_ref09_Found, ↓reduceIte, Nat.reduceEqDiff, Nat.reduceAdd, Nat.reduceLeDiff, reduceCtorEq, Int.natCast_nonneg, List.getElem?_map, Int.toNat_natCast, List.length_map, List.replicate_zero, Bool.bne_false, Bool.bne_true, Nat.reduceLT, Int.reduceLT, Int.reduceLE, Int.reduceEq, Int.reduceToNat, List.length_replicate, List.isEmpty_cons, List.isEmpty_nil, Nat.le_refl, Int.le_refl, Int.sub_zero, Int.sub_self, ne_eq, List.length_append, Int.toNat_zero, Nat.zero_mul, Nat.mul_one, Nat.one_mul, Nat.reduceMul]
                  have : (List.range (tx.size + 1)).any E = true := List.any_eq_true.2 ⟨k, by simp; omega, hEk⟩
                  rw [List.range_succ] at this; rw [this]; try rfl
              · simp at h3
                simp only [go_sem, s_ref09_Found_t6, ↓reduceIte, Nat.reduceEqDiff, Nat.reduceAdd, Nat.reduceLeDiff, reduceCtorEq, Int.natCast_nonneg, List.getElem?_map, Int.toNat_natCast, List.length_map, List.replicate_zero, Bool.bne_false, Bool.bne_true, Nat.reduceLT, Int.reduceLT, Int.reduceLE, Int.reduceEq, Int.reduceToNat, List.length_replicate, List.isEmpty_cons, List.isEmpty_nil, Nat.le_refl, Int.le_refl, Int.sub_zero, Int.sub_self, ne_eq, List.length_append, Int.toNat_zero, Nat.zero_mul, Nat.mul_one, Nat.one_mul, Nat.reduceMul]
                refine wends (by first | exact Or.inl rfl | exact Or.inr rfl) ?_ (by first | rfl | simp [AV.ids, idsL])
                simp only [go_sem, r_ref09_Found, ↓reduceIte, Nat.reduceEqDiff, Nat.reduceAdd, Nat.reduceLeDiff, reduceCtorEq, Int.natCast_nonneg, List.getElem?_map, Int.toNat_natCast, List.length_map, List.replicate_zero, Bool.bne_false, Bool.bne_true, Nat.reduceLT, Int.reduceLT, Int.reduceLE, Int.reduceEq, Int.reduceToNat, List.length_replicate, List.isEmpty_cons, List.isEmpty_nil, Nat.le_refl, Int.le_refl, Int.sub_zero, Int.sub_self, ne_eq, List.length_append, Int.toNat_zero, Nat.zero_mul, Nat.mul_one, Nat.one_mul, Nat.reduceMul]
                have : (List.range (tx.size + 1)).any E = false := by
                  rw [List.any_eq_false]
                  intro i hi
                  rw [hall i (by simp at hi; omega)]; simp
                rw [List.range_succ] at this; rw [this]; try rfl
          · have q1 : (tx.size : Int) < ((tx.size + 1 : Nat) : Int) := by omega
            simp only [go_sem, s_ref09_Found_t7, hz, q1, hgt tx.size (by omega), ↓reduceIte, Nat.reduceEqDiff, Nat.reduceAdd, Nat.reduceLeDiff, reduceCtorEq, Int.natCast_nonneg, List.getElem?_map, Int.toNat_natCast, List.length_map, List.replicate_zero, Bool.bne_false, Bool.bne_true, Nat.reduceLT, Int.reduceLT, Int.reduceLE, Int.reduceEq, Int.reduceToNat, List.length_replicate, List.isEmpty_cons, List.isEmpty_nil, Nat.le_refl, Int.le_refl, Int.sub_zero, Int.sub_self, ne_eq, List.length_append, Int.toNat_zero, Nat.zero_mul, Nat.mul_one, Nat.one_mul, Nat.reduceMul]
            refine wends (by first | exact Or.inl rfl | exact Or.inr rfl) ?_ (by first | rfl | simp [AV.ids, idsL])
            simp only [go_sem, r_ref09_Found, ↓reduceIte, Nat.reduceEqDiff, Nat.reduceAdd, Nat.reduceLeDiff, reduceCtorEq, Int.natCast_nonneg, List.getElem?_map, Int.toNat_natCast, List.length_map, List.replicate_zero, Bool.bne_false, Bool.bne_true, Nat.reduceLT, Int.reduceLT, Int.reduceLE, Int.reduceEq, Int.reduceToNat, List.length_replicate, List.isEmpty_cons, List.isEmpty_nil, Nat.le_refl, Int.le_refl, Int.sub_zero, Int.sub_self, ne_eq, List.length_append, Int.toNat_zero, Nat.zero_mul, Nat.mul_one, Nat.one_mul, Nat.reduceMul]

end Go.Proofs.Ytgnokggmbkhnbaa
