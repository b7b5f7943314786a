/- Contracts of the plain compiler of patterns. No statement of the seat is proved here. -/
import Derived.Test.YtgnokggmbkhnbaaNdRef
import Derived.Test.YtgnokggmbkhnbaaNdComp
import Derived.Test.YtgnokggmbkhnbaaNdLaw
set_option linter.unusedSimpArgs false
set_option linter.unusedVariables false
namespace Go.Proofs.Ytgnokggmbkhnbaa
open Go Go.Sx

theorem f_ref09_one (b : Nat) (hb : b < 256) : Meets Try.prog E0 n_ref09_one [U8 b] [] (itemV (2 ^ b, false)) [] := by
  refine m_ref09_one (by simp) (shut0 rfl) (shut0 rfl) (by simp) (by simp [keysOf]) ?_
  have h4 : b / 64 = 0 ∨ b / 64 = 1 ∨ b / 64 = 2 ∨ b / 64 = 3 := by omega
  have i4 : ∀ j : Nat, j < 4 → (j : Int) < ((4 : Nat) : Int) := by omega
  have hz : 0 ||| 2 ^ b = 2 ^ b := Nat.zero_or _
  have hmin : min (b % 64) 64 = b % 64 := Nat.min_eq_left (by omega)
  have p0 : 2 ^ (b % 64) % 18446744073709551616 = 2 ^ (b % 64) := Nat.mod_eq_of_lt (Nat.pow_lt_pow_right (n := 64) (by decide) (by omega))
  have wz : ∀ k, word 0 k = 0 := by intro k; simp [word]
  have ws : ∀ k, b / 64 = k → word (2 ^ b) k = 2 ^ (b % 64) := by intro k h; rw [← hz, word_or_same 0 k b h, wz, Nat.zero_or]
  have wo : ∀ k, b / 64 ≠ k → word (2 ^ b) k = 0 := by intro k h; rw [← hz, word_or_other 0 k b h, wz]
  rcases h4 with h4 | h4 | h4 | h4
  · ((try simp only [go_sem, s_ref09_one, h4, i4 0 (by decide), hmin, p0, show 0 % 256 = 0 from rfl, ↓reduceIte, Nat.reduceEqDiff, Nat.reduceAdd, Nat.reduceLeDiff, reduceCtorEq, Int.natCast_nonneg, List.getElem?_map, Int.toNat_natCast, List.length_map, List.replicate_zero, Bool.bne_false, Bool.bne_true, Nat.reduceLT, Int.reduceLT, Int.reduceLE, Int.reduceEq, Int.reduceToNat, List.length_replicate, List.isEmpty_cons, List.isEmpty_nil, Nat.le_refl, Int.le_refl, Int.sub_zero, Int.sub_self, ne_eq, List.length_append, Int.toNat_zero, Nat.zero_mul, Nat.mul_one, Nat.one_mul, Nat.reduceMul]); repeat (simp (disch := omega) only [wrap_i64_of, i64_quo, i64_rem, sdiv, smod]; (try simp only [go_sem, s_ref09_one, h4, i4 0 (by decide), hmin, p0, show 0 % 256 = 0 from rfl, ↓reduceIte, Nat.reduceEqDiff, Nat.reduceAdd, Nat.reduceLeDiff, reduceCtorEq, Int.natCast_nonneg, List.getElem?_map, Int.toNat_natCast, List.length_map, List.replicate_zero, Bool.bne_false, Bool.bne_true, Nat.reduceLT, Int.reduceLT, Int.reduceLE, Int.reduceEq, Int.reduceToNat, List.length_replicate, List.isEmpty_cons, List.isEmpty_nil, Nat.le_refl, Int.le_refl, Int.sub_zero, Int.sub_self, ne_eq, List.length_append, Int.toNat_zero, Nat.zero_mul, Nat.mul_one, Nat.one_mul, Nat.reduceMul])))
    refine wends (by first | exact Or.inl rfl | exact Or.inr rfl) ?_ (by first | rfl | simp [AV.ids, idsL])
    simp only [go_sem, r_ref09_one, itemV, setL_word, ws 0 h4, wo 1 (by omega), wo 2 (by omega), wo 3 (by omega), ↓reduceIte, Nat.reduceEqDiff, Nat.reduceAdd, Nat.reduceLeDiff, reduceCtorEq, Int.natCast_nonneg, List.getElem?_map, Int.toNat_natCast, List.length_map, List.replicate_zero, Bool.bne_false, Bool.bne_true, Nat.reduceLT, Int.reduceLT, Int.reduceLE, Int.reduceEq, Int.reduceToNat, List.length_replicate, List.isEmpty_cons, List.isEmpty_nil, Nat.le_refl, Int.le_refl, Int.sub_zero, Int.sub_self, ne_eq, List.length_append, Int.toNat_zero, Nat.zero_mul, Nat.mul_one, Nat.one_mul, Nat.reduceMul]
  · ((try simp only [go_sem, s_ref09_one, h4, i4 1 (by decide), hmin, p0, show 1 % 256 = 1 from rfl, ↓reduceIte, Nat.reduceEqDiff, Nat.reduceAdd, Nat.reduceLeDiff, reduceCtorEq, Int.natCast_nonneg, List.getElem?_map, Int.toNat_natCast, List.length_map, List.replicate_zero, Bool.bne_false, Bool.bne_true, Nat.reduceLT, Int.reduceLT, Int.reduceLE, Int.reduceEq, Int.reduceToNat, List.length_replicate, List.isEmpty_cons, List.isEmpty_nil, Nat.le_refl, Int.le_refl, Int.sub_zero, Int.sub_self, ne_eq, List.length_append, Int.toNat_zero, Nat.zero_mul, Nat.mul_one, Nat.one_mul, Nat.reduceMul]); repeat (simp (disch := omega) only [wrap_i64_of, i64_quo, i64_rem, sdiv, smod]; (try simp only [go_sem, s_ref09_one, h4, i4 1 (by decide), hmin, p0, show 1 % 256 = 1 from rfl, ↓reduceIte, Nat.reduceEqDiff, Nat.reduceAdd, Nat.reduceLeDiff, reduceCtorEq, Int.natCast_nonneg, List.getElem?_map, Int.toNat_natCast, List.length_map, List.replicate_zero, Bool.bne_false, Bool.bne_true, Nat.reduceLT, Int.reduceLT, Int.reduceLE, Int.reduceEq, Int.reduceToNat, List.length_replicate, List.isEmpty_cons, List.isEmpty_nil, Nat.le_refl, Int.le_refl, Int.sub_zero, Int.sub_self, ne_eq, List.length_append, Int.toNat_zero, Nat.zero_mul, Nat.mul_one, Nat.one_mul, Nat.reduceMul])))
    refine wends (by first | exact Or.inl rfl | exact Or.inr rfl) ?_ (by first | rfl | simp [AV.ids, idsL])
    simp only [go_sem, r_ref09_one, itemV, setL_word, ws 1 h4, wo 0 (by omega), wo 2 (by omega), wo 3 (by omega), ↓reduceIte, Nat.reduceEqDiff, Nat.reduceAdd, Nat.reduceLeDiff, reduceCtorEq, Int.natCast_nonneg, List.getElem?_map, Int.toNat_natCast, List.length_map, List.replicate_zero, Bool.bne_false, Bool.bne_true, Nat.reduceLT, Int.reduceLT, Int.reduceLE, Int.reduceEq, Int.reduceToNat, List.length_replicate, List.isEmpty_cons, List.isEmpty_nil, Nat.le_refl, Int.le_refl, Int.sub_zero, Int.sub_self, ne_eq, List.length_append, Int.toNat_zero, Nat.zero_mul, Nat.mul_one, Nat.one_mul, Nat.reduceMul]
  · ((try simp only [go_sem, s_ref09_one, h4, i4 2 (by decide), hmin, p0, show 2 % 256 = 2 from rfl, ↓reduceIte, Nat.reduceEqDiff, Nat.reduceAdd, Nat.reduceLeDiff, reduceCtorEq, Int.natCast_nonneg, List.getElem?_map, Int.toNat_natCast, List.length_map, List.replicate_zero, Bool.bne_false, Bool.bne_true, Nat.reduceLT, Int.reduceLT, Int.reduceLE, Int.reduceEq, Int.reduceToNat, List.length_replicate, List.isEmpty_cons, List.isEmpty_nil, Nat.le_refl, Int.le_refl, Int.sub_zero, Int.sub_self, ne_eq, List.length_append, Int.toNat_zero, Nat.zero_mul, Nat.mul_one, Nat.one_mul, Nat.reduceMul]); repeat (simp (disch := omega) only [wrap_i64_of, i64_quo, i64_rem, sdiv, smod]; (try simp only [go_sem, s_ref09_one, h4, i4 2 (by decide), hmin, p0, show 2 % 256 = 2 from rfl, ↓reduceIte, Nat.reduceEqDiff, Nat.reduceAdd, Nat.reduceLeDiff, reduceCtorEq, Int.natCast_nonneg, List.getElem?_map, Int.toNat_natCast, List.length_map, List.replicate_zero, Bool.bne_false, Bool.bne_true, Nat.reduceLT, Int.reduceLT, Int.reduceLE, Int.reduceEq, Int.reduceToNat, List.length_replicate, List.isEmpty_cons, List.isEmpty_nil, Nat.le_refl, Int.le_refl, Int.sub_zero, Int.sub_self, ne_eq, List.length_append, Int.toNat_zero, Nat.zero_mul, Nat.mul_one, Nat.one_mul, Nat.reduceMul])))
    refine wends (by first | exact Or.inl rfl | exact Or.inr rfl) ?_ (by first | rfl | simp [AV.ids, idsL])
    simp only [go_sem, r_ref09_one, itemV, setL_word, ws 2 h4, wo 0 (by omega), wo 1 (by omega), wo 3 (by omega), ↓reduceIte, Nat.reduceEqDiff, Nat.reduceAdd, Nat.reduceLeDiff, reduceCtorEq, Int.natCast_nonneg, List.getElem?_map, Int.toNat_natCast, List.length_map, List.replicate_zero, Bool.bne_false, Bool.bne_true, Nat.reduceLT, Int.reduceLT, Int.reduceLE, Int.reduceEq, Int.reduceToNat, List.length_replicate, List.isEmpty_cons, List.isEmpty_nil, Nat.le_refl, Int.le_refl, Int.sub_zero, Int.sub_self, ne_eq, List.length_append, Int.toNat_zero, Nat.zero_mul, Nat.mul_one, Nat.one_mul, Nat.reduceMul]
  · ((try simp only [go_sem, s_ref09_one, h4, i4 3 (by decide), hmin, p0, show 3 % 256 = 3 from rfl, ↓reduceIte, Nat.reduceEqDiff, Nat.reduceAdd, Nat.reduceLeDiff, reduceCtorEq, Int.natCast_nonneg, List.getElem?_map, Int.toNat_natCast, List.length_map, List.replicate_zero, Bool.bne_false, Bool.bne_true, Nat.reduceLT, Int.reduceLT, Int.reduceLE, Int.reduceEq, Int.reduceToNat, List.length_replicate, List.isEmpty_cons, List.isEmpty_nil, Nat.le_refl, Int.le_refl, Int.sub_zero, Int.sub_self, ne_eq, List.length_append, Int.toNat_zero, Nat.zero_mul, Nat.mul_one, Nat.one_mul, Nat.reduceMul]); repeat (simp (disch := omega) only [wrap_i64_of, i64_quo, i64_rem, sdiv, smod]; (try simp only [go_sem, s_ref09_one, h4, i4 3 (by decide), hmin, p0, show 3 % 256 = 3 from rfl, ↓reduceIte, Nat.reduceEqDiff, Nat.reduceAdd, Nat.reduceLeDiff, reduceCtorEq, Int.natCast_nonneg, List.getElem?_map, Int.toNat_natCast, List.length_map, List.replicate_zero, Bool.bne_false, Bool.bne_true, Nat.reduceLT, Int.reduceLT, Int.reduceLE, Int.reduceEq, Int.reduceToNat, List.length_replicate, List.isEmpty_cons, List.isEmpty_nil, Nat.le_refl, Int.le_refl, Int.sub_zero, Int.sub_self, ne_eq, List.length_append, Int.toNat_zero, Nat.zero_mul, Nat.mul_one, Nat.one_mul, Nat.reduceMul])))
    refine wends (by first | exact Or.inl rfl | exact Or.inr rfl) ?_ (by first | rfl | simp [AV.ids, idsL])
    simp only [go_sem, r_ref09_one, itemV, setL_word, ws 3 h4, wo 0 (by omega), wo 1 (by omega), wo 2 (by omega), ↓reduceIte, Nat.reduceEqDiff, Nat.reduceAdd, Nat.reduceLeDiff, reduceCtorEq, Int.natCast_nonneg, List.getElem?_map, Int.toNat_natCast, List.length_map, List.replicate_zero, Bool.bne_false, Bool.bne_true, Nat.reduceLT, Int.reduceLT, Int.reduceLE, Int.reduceEq, Int.reduceToNat, List.length_replicate, List.isEmpty_cons, List.isEmpty_nil, Nat.le_refl, Int.le_refl, Int.sub_zero, Int.sub_self, ne_eq, List.length_append, Int.toNat_zero, Nat.zero_mul, Nat.mul_one, Nat.one_mul, Nat.reduceMul]

/-- Bytes, each by its own flag. -/
def bitsL (n : Nat) : List AV := (List.range 256).map fun i => Bo (n.testBit i)

theorem bits_zero : (List.replicate 256 (Bo false)) = bitsL 0 := by
  apply List.ext_getElem
  · rw [List.length_replicate, bitsL, List.length_map, List.length_range]
  · intro i h1 h2
    rw [List.getElem_replicate]
    simp only [bitsL, List.getElem_map, List.getElem_range, Nat.zero_testBit]

theorem bits_get (n i : Nat) (h : i < 256) : (bitsL n)[i]? = some (Bo (n.testBit i)) := by
  simp [bitsL, h]

theorem bits_set (n i : Nat) (h : i < 256) : (bitsL n).set i (Bo true) = bitsL (n ||| 2 ^ i) := by
  apply List.ext_getElem
  · simp [bitsL]
  · intro j h1 h2
    rw [List.getElem_set]
    simp only [bitsL, List.getElem_map, List.getElem_range, Nat.testBit_or, Nat.testBit_two_pow]
    split
    · rename_i e; subst e; simp
    · rename_i e; simp [e]

set_option maxRecDepth 20000 in
theorem lit256 : ([T.v (.bool false), T.v (.bool false), T.v (.bool false), T.v (.bool false), T.v (.bool false), T.v (.bool false), T.v (.bool false), T.v (.bool false), T.v (.bool false), T.v (.bool false), T.v (.bool false), T.v (.bool false), T.v (.bool false), T.v (.bool false), T.v (.bool false), T.v (.bool false), T.v (.bool false), T.v (.bool false), T.v (.bool false), T.v (.bool false), T.v (.bool false), T.v (.bool false), T.v (.bool false), T.v (.bool false), T.v (.bool false), T.v (.bool false), T.v (.bool false), T.v (.bool false), T.v (.bool false), T.v (.bool false), T.v (.bool false), T.v (.bool false), T.v (.bool false), T.v (.bool false), T.v (.bool false), T.v (.bool false), T.v (.bool false), T.v (.bool false), T.v (.bool false), T.v (.bool false), T.v (.bool false), T.v (.bool false), T.v (.bool false), T.v (.bool false), T.v (.bool false), T.v (.bool false), T.v (.bool false), T.v (.bool false), T.v (.bool false), T.v (.bool false), T.v (.bool false), T.v (.bool false), T.v (.bool false), T.v (.bool false), T.v (.bool false), T.v (.bool false), T.v (.bool false), T.v (.bool false), T.v (.bool false), T.v (.bool false), T.v (.bool false), T.v (.bool false), T.v (.bool false), T.v (.bool false), T.v (.bool false), T.v (.bool false), T.v (.bool false), T.v (.bool false), T.v (.bool false), T.v (.bool false), T.v (.bool false), T.v (.bool false), T.v (.bool false), T.v (.bool false), T.v (.bool false), T.v (.bool false), T.v (.bool false), T.v (.bool false), T.v (.bool false), T.v (.bool false), T.v (.bool false), T.v (.bool false), T.v (.bool false), T.v (.bool false), T.v (.bool false), T.v (.bool false), T.v (.bool false), T.v (.bool false), T.v (.bool false), T.v (.bool false), T.v (.bool false), T.v (.bool false), T.v (.bool false), T.v (.bool false), T.v (.bool false), T.v (.bool false), T.v (.bool false), T.v (.bool false), T.v (.bool false), T.v (.bool false), T.v (.bool false), T.v (.bool false), T.v (.bool false), T.v (.bool false), T.v (.bool false), T.v (.bool false), T.v (.bool false), T.v (.bool false), T.v (.bool false), T.v (.bool false), T.v (.bool false), T.v (.bool false), T.v (.bool false), T.v (.bool false), T.v (.bool false), T.v (.bool false), T.v (.bool false), T.v (.bool false), T.v (.bool false), T.v (.bool false), T.v (.bool false), T.v (.bool false), T.v (.bool false), T.v (.bool false), T.v (.bool false), T.v (.bool false), T.v (.bool false), T.v (.bool false), T.v (.bool false), T.v (.bool false), T.v (.bool false), T.v (.bool false), T.v (.bool false), T.v (.bool false), T.v (.bool false), T.v (.bool false), T.v (.bool false), T.v (.bool false), T.v (.bool false), T.v (.bool false), T.v (.bool false), T.v (.bool false), T.v (.bool false), T.v (.bool false), T.v (.bool false), T.v (.bool false), T.v (.bool false), T.v (.bool false), T.v (.bool false), T.v (.bool false), T.v (.bool false), T.v (.bool false), T.v (.bool false), T.v (.bool false), T.v (.bool false), T.v (.bool false), T.v (.bool false), T.v (.bool false), T.v (.bool false), T.v (.bool false), T.v (.bool false), T.v (.bool false), T.v (.bool false), T.v (.bool false), T.v (.bool false), T.v (.bool false), T.v (.bool false), T.v (.bool false), T.v (.bool false), T.v (.bool false), T.v (.bool false), T.v (.bool false), T.v (.bool false), T.v (.bool false), T.v (.bool false), T.v (.bool false), T.v (.bool false), T.v (.bool false), T.v (.bool false), T.v (.bool false), T.v (.bool false), T.v (.bool false), T.v (.bool false), T.v (.bool false), T.v (.bool false), T.v (.bool false), T.v (.bool false), T.v (.bool false), T.v (.bool false), T.v (.bool false), T.v (.bool false), T.v (.bool false), T.v (.bool false), T.v (.bool false), T.v (.bool false), T.v (.bool false), T.v (.bool false), T.v (.bool false), T.v (.bool false), T.v (.bool false), T.v (.bool false), T.v (.bool false), T.v (.bool false), T.v (.bool false), T.v (.bool false), T.v (.bool false), T.v (.bool false), T.v (.bool false), T.v (.bool false), T.v (.bool false), T.v (.bool false), T.v (.bool false), T.v (.bool false), T.v (.bool false), T.v (.bool false), T.v (.bool false), T.v (.bool false), T.v (.bool false), T.v (.bool false), T.v (.bool false), T.v (.bool false), T.v (.bool false), T.v (.bool false), T.v (.bool false), T.v (.bool false), T.v (.bool false), T.v (.bool false), T.v (.bool false), T.v (.bool false), T.v (.bool false), T.v (.bool false), T.v (.bool false), T.v (.bool false), T.v (.bool false), T.v (.bool false), T.v (.bool false), T.v (.bool false), T.v (.bool false), T.v (.bool false), T.v (.bool false), T.v (.bool false), T.v (.bool false), T.v (.bool false), T.v (.bool false), T.v (.bool false), T.v (.bool false), T.v (.bool false), T.v (.bool false), T.v (.bool false), T.v (.bool false), T.v (.bool false), T.v (.bool false), T.v (.bool false), T.v (.bool false), T.v (.bool false), T.v (.bool false)] : List T) = List.replicate 256 (.v (.bool false)) := rfl

/-- The bits, of those below one, that are set or that are not. -/
def selM (n : Nat) (q : Bool) : Nat → Nat
  | 0 => 0
  | i + 1 => if (n.testBit i != q) then selM n q i ||| 2 ^ i else selM n q i

theorem selM_bit (n : Nat) (q : Bool) : ∀ (i j : Nat), (selM n q i).testBit j = (decide (j < i) && (n.testBit j != q))
  | 0, j => by simp [selM]
  | i + 1, j => by
    have ih := selM_bit n q i j
    simp only [selM]
    split
    · rename_i h
      rw [Nat.testBit_or, ih, Nat.testBit_two_pow]
      by_cases e : i = j
      · subst e; simp [h]
      · simp [e, show (j < i + 1) ↔ (j < i) from by omega]
    · rename_i h
      rw [ih]
      by_cases e : i = j
      · subst e; simp at h; simp [h]
      · simp [show (j < i + 1) ↔ (j < i) from by omega]

theorem selM_all {n : Nat} (hn : n < 2 ^ 256) (q : Bool) : selM n q 256 = if q then cplM n else n := by
  apply Nat.eq_of_testBit_eq
  intro j
  rw [selM_bit]
  by_cases hj : j < 256
  · cases q
    · simp [hj]
    · simp [hj, cpl_bit n j hn hj]
  · have hb : ∀ m, m < 2 ^ 256 → m.testBit j = false := fun m hm => Nat.testBit_lt_two_pow (Nat.lt_of_lt_of_le hm (Nat.pow_le_pow_right (by decide) (by omega)))
    cases q
    · simp [hj, hb n hn]
    · simp [hj, hb _ (cpl_lt n)]

theorem f_ref09_Same (a z a' z' : Bool) (is is' : List Item) (he : (a, z, is) = (a', z', is')) (hn : is.length ≤ 100000) : Meets Try.prog E0 n_ref09_Same [needleV a z is, needleV a' z' is'] [] (Bo true) [] := by
  obtain ⟨rfl, h⟩ := Prod.mk.inj he
  obtain ⟨rfl, rfl⟩ := Prod.mk.inj h
  refine m_ref09_Same (by simp) (shut0 rfl) (shut0 rfl) (by simp) (by simp [keysOf]) ?_
  simp only [go_sem, s_ref09_Same, beq_self_eq_true, bne_self_eq_false, ↓reduceIte, Nat.reduceEqDiff, Nat.reduceAdd, Nat.reduceLeDiff, reduceCtorEq, Int.natCast_nonneg, List.getElem?_map, Int.toNat_natCast, List.length_map, List.replicate_zero, Bool.bne_false, Bool.bne_true, Nat.reduceLT, Int.reduceLT, Int.reduceLE, Int.reduceEq, Int.reduceToNat, List.length_replicate, List.isEmpty_cons, List.isEmpty_nil, Nat.le_refl, Int.le_refl, Int.sub_zero, Int.sub_self, ne_eq, List.length_append, Int.toNat_zero, Nat.zero_mul, Nat.mul_one, Nat.one_mul, Nat.reduceMul]
  refine W_loop (fun k : Nat => is.length - k) (fun k => k ≤ is.length)
    (fun k => [(2, .ptr 100 0), (3, .ptr 101 0), (4, Bo false), (5, I k)])
    (fun k => [(100, .box [Bo a, Bo z, itemsV is]), (101, .box [Bo a, Bo z, itemsV is])]) 0 (by omega) ?_ ?_
  · exact (subL [] [] (by simp [envS, go_sem, wkV, wkL, AV.ids, idsL, keysOf, ren, stoOf, slTrees, AV.asOwn, rowPart, AV.isNil, setL, pst] <;> assumption) (by simp [stoS, go_sem, wkV, wkL, wkO, AV.ids, Ob.ids, idsL, keysOf, ren, AV.one, stoOf, slTrees, AV.asOwn, rowPart, AV.isNil, setL, pst] <;> assumption) (by simp [keysOf, ren]) (by simp [stoOf, keysOf, ren]) (by simp [keysOf, ren]) (by simp [keysOf, ren]))
  · intro k hk
    simp only [go_sem, ↓reduceIte, Nat.reduceEqDiff, Nat.reduceAdd, Nat.reduceLeDiff, reduceCtorEq, Int.natCast_nonneg, List.getElem?_map, Int.toNat_natCast, List.length_map, List.replicate_zero, Bool.bne_false, Bool.bne_true, Nat.reduceLT, Int.reduceLT, Int.reduceLE, Int.reduceEq, Int.reduceToNat, List.length_replicate, List.isEmpty_cons, List.isEmpty_nil, Nat.le_refl, Int.le_refl, Int.sub_zero, Int.sub_self, ne_eq, List.length_append, Int.toNat_zero, Nat.zero_mul, Nat.mul_one, Nat.one_mul, Nat.reduceMul]
    refine W_split rfl (fun h1 => ?_) (fun h1 => ?_)
    · simp at h1
      obtain ⟨x, hx⟩ := get_of_lt h1
      have ek : IntKind.i64.wrap ((k : Int) + 1) = ((k + 1 : Nat) : Int) := by rw [wrap_i64_of (by omega) (by omega)]; omega
      have q1 : (k : Int) < (is.length : Int) := by omega
      simp only [go_sem, q1, hx, ek, Option.map_some, itemT, List.length_cons, List.length_nil, List.take_succ_cons, List.take_zero, List.map_cons, List.map_nil, ↓reduceIte, Nat.reduceEqDiff, Nat.reduceAdd, Nat.reduceLeDiff, reduceCtorEq, Int.natCast_nonneg, List.getElem?_map, Int.toNat_natCast, List.length_map, List.replicate_zero, Bool.bne_false, Bool.bne_true, Nat.reduceLT, Int.reduceLT, Int.reduceLE, Int.reduceEq, Int.reduceToNat, List.length_replicate, List.isEmpty_cons, List.isEmpty_nil, Nat.le_refl, Int.le_refl, Int.sub_zero, Int.sub_self, ne_eq, List.length_append, Int.toNat_zero, Nat.zero_mul, Nat.mul_one, Nat.one_mul, Nat.reduceMul]
      simp only [go_sem, ek, beq_self_eq_true, Bool.not_true, ↓reduceIte, Nat.reduceEqDiff, Nat.reduceAdd, Nat.reduceLeDiff, reduceCtorEq, Int.natCast_nonneg, List.getElem?_map, Int.toNat_natCast, List.length_map, List.replicate_zero, Bool.bne_false, Bool.bne_true, Nat.reduceLT, Int.reduceLT, Int.reduceLE, Int.reduceEq, Int.reduceToNat, List.length_replicate, List.isEmpty_cons, List.isEmpty_nil, Nat.le_refl, Int.le_refl, Int.sub_zero, Int.sub_self, ne_eq, List.length_append, Int.toNat_zero, Nat.zero_mul, Nat.mul_one, Nat.one_mul, Nat.reduceMul]
      refine rd_of (k + 1) (by first | omega | (simp only; omega)) (by first | omega | (simp only; omega)) ?_
      exact (subL [] [] (by simp [envS, go_sem, wkV, wkL, AV.ids, idsL, keysOf, ren, stoOf, slTrees, AV.asOwn, rowPart, AV.isNil, setL, pst] <;> assumption) (by simp [stoS, go_sem, wkV, wkL, wkO, AV.ids, Ob.ids, idsL, keysOf, ren, AV.one, stoOf, slTrees, AV.asOwn, rowPart, AV.isNil, setL, pst] <;> assumption) (by simp [keysOf, ren]) (by simp [stoOf, keysOf, ren]) (by simp [keysOf, ren]) (by simp [keysOf, ren]))
    · simp at h1
      simp only [go_sem, ↓reduceIte, Nat.reduceEqDiff, Nat.reduceAdd, Nat.reduceLeDiff, reduceCtorEq, Int.natCast_nonneg, List.getElem?_map, Int.toNat_natCast, List.length_map, List.replicate_zero, Bool.bne_false, Bool.bne_true, Nat.reduceLT, Int.reduceLT, Int.reduceLE, Int.reduceEq, Int.reduceToNat, List.length_replicate, List.isEmpty_cons, List.isEmpty_nil, Nat.le_refl, Int.le_refl, Int.sub_zero, Int.sub_self, ne_eq, List.length_append, Int.toNat_zero, Nat.zero_mul, Nat.mul_one, Nat.one_mul, Nat.reduceMul]
      refine wends (by first | exact Or.inl rfl | exact Or.inr rfl) ?_ (by first | rfl | simp [AV.ids, idsL])
      simp only [go_sem, r_ref09_Same, ↓reduceIte, Nat.reduceEqDiff, Nat.reduceAdd, Nat.reduceLeDiff, reduceCtorEq, Int.natCast_nonneg, List.getElem?_map, Int.toNat_natCast, List.length_map, List.replicate_zero, Bool.bne_false, Bool.bne_true, Nat.reduceLT, Int.reduceLT, Int.reduceLE, Int.reduceEq, Int.reduceToNat, List.length_replicate, List.isEmpty_cons, List.isEmpty_nil, Nat.le_refl, Int.le_refl, Int.sub_zero, Int.sub_self, ne_eq, List.length_append, Int.toNat_zero, Nat.zero_mul, Nat.mul_one, Nat.one_mul, Nat.reduceMul]

end Go.Proofs.Ytgnokggmbkhnbaa
