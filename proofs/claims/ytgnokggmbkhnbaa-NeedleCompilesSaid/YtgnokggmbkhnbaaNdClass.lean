/- Contracts of the reader of classes and atoms. No statement of the seat is proved here. -/
import Derived.Test.YtgnokggmbkhnbaaNdParse
set_option linter.unusedSimpArgs false
set_option linter.unusedVariables false
namespace Go.Proofs.Ytgnokggmbkhnbaa
open Go Go.Sx

theorem cpl_words {n : Nat} (hn : n < 2 ^ 256) (k : Nat) (hk : k < 4) : word (cplM n) k = 18446744073709551616 - 1 - word n k := by
  apply Nat.eq_of_testBit_eq
  intro i
  have hw := word_lt n k
  have e : (18446744073709551616 : Nat) - 1 - word n k = 2 ^ 64 - (word n k + 1) := by omega
  by_cases hi : i < 64
  · rw [word_bit _ _ _ hi, cpl_bit n _ hn (by omega), e, Nat.testBit_two_pow_sub_succ hw, word_bit _ _ _ hi]
    simp [hi]
  · rw [Nat.testBit_lt_two_pow (Nat.lt_of_lt_of_le (word_lt _ k) (Nat.pow_le_pow_right (by decide) (by omega))), Nat.testBit_lt_two_pow (Nat.lt_of_lt_of_le (show (18446744073709551616 : Nat) - 1 - word n k < 2 ^ 64 by omega) (Nat.pow_le_pow_right (by decide) (by omega)))]

/-- Words, the first ones of which are turned over. -/
def cwL (n : Nat) : Nat → List AV
  | 0 => [U (word n 0 : Nat), U (word n 1 : Nat), U (word n 2 : Nat), U (word n 3 : Nat)]
  | 1 => [U (18446744073709551616 - 1 - word n 0 : Nat), U (word n 1 : Nat), U (word n 2 : Nat), U (word n 3 : Nat)]
  | 2 => [U (18446744073709551616 - 1 - word n 0 : Nat), U (18446744073709551616 - 1 - word n 1 : Nat), U (word n 2 : Nat), U (word n 3 : Nat)]
  | 3 => [U (18446744073709551616 - 1 - word n 0 : Nat), U (18446744073709551616 - 1 - word n 1 : Nat), U (18446744073709551616 - 1 - word n 2 : Nat), U (word n 3 : Nat)]
  | _ => [U (18446744073709551616 - 1 - word n 0 : Nat), U (18446744073709551616 - 1 - word n 1 : Nat), U (18446744073709551616 - 1 - word n 2 : Nat), U (18446744073709551616 - 1 - word n 3 : Nat)]

theorem setL_word (n : Nat) : setL n = [U (word n 0 : Nat), U (word n 1 : Nat), U (word n 2 : Nat), U (word n 3 : Nat)] := by
  show [U ((n % 18446744073709551616 : Nat) : Int), U ((n / 18446744073709551616 % 18446744073709551616 : Nat) : Int), U ((n / 340282366920938463463374607431768211456 % 18446744073709551616 : Nat) : Int), U ((n / (18446744073709551616 * 340282366920938463463374607431768211456) % 18446744073709551616 : Nat) : Int)] = _
  rw [word0 n, word1 n, word2 n, word3 n]

theorem cwL_zero (n : Nat) : cwL n 0 = setL n := (setL_word n).symm

theorem cwL_four {n : Nat} (hn : n < 2 ^ 256) : cwL n 4 = setL (cplM n) := by
  rw [setL_word]
  simp only [cwL]
  rw [cpl_words hn 0 (by decide), cpl_words hn 1 (by decide), cpl_words hn 2 (by decide), cpl_words hn 3 (by decide)]

theorem u64_not {a : Nat} (h : a < 18446744073709551616) : IntKind.u64.wrap ((BitVec.ofInt 64 (if IntKind.u64.signed = true then -1 else IntKind.u64.max) ^^^ BitVec.ofInt 64 ((a : Nat) : Int)).toNat) = ((18446744073709551616 - 1 - a : Nat) : Int) := by
  show IntKind.u64.wrap ((BitVec.ofInt 64 (18446744073709551616 - 1 : Int) ^^^ BitVec.ofInt 64 (a : Int)).toNat) = _
  rw [bv_nat, show BitVec.ofInt 64 (18446744073709551616 - 1 : Int) = BitVec.allOnes 64 from by decide, BitVec.allOnes_xor, u64_wrap_nat, BitVec.toNat_not, BitVec.toNat_ofNat]
  congr 1
  omega

theorem f_parser_class0 (s : ByteArray) (rest : List UInt8) (h : Suf s rest) (hs : s.size < 4611686018427387904) : Meets Try.prog E0 n_needle_parser_class [.ptr 0 0] [(0, pst s rest)] (.tp [setV (classM rest).1, Bo (classM rest).2.1]) [(0, pst s (classM rest).2.2)] := by
  have hsuf : Suf s (skipM 94 rest).2 := (skip_suf 94 rest).trans h
  unfold classM
  generalize hsk : skipM 94 rest = sk at *
  generalize hx : classX sk.2 false 0 = x
  refine m_needle_parser_class (by simp) (shut_of (by simp [idsL, AV.ids, keysOf, setL, pst, cwL]) (by simp [Ob.live, Ob.ids, keysOf, idsL, AV.ids, setL, pst, cwL])) (shut_of (by simp [idsL, AV.ids, keysOf, setL, pst, cwL]) (by simp [Ob.live, Ob.ids, keysOf, idsL, AV.ids, setL, pst, cwL])) (by simp [keysOf]) (by simp [keysOf]) ?_
  simp only [go_sem, s_needle_parser_class, ↓reduceIte, Nat.reduceEqDiff, Nat.reduceAdd, Nat.reduceLeDiff, reduceCtorEq, Int.natCast_nonneg, List.getElem?_map, Int.toNat_natCast, List.length_map, List.replicate_zero, Bool.bne_false, Bool.bne_true, Nat.reduceLT, Int.reduceLT, Int.reduceLE, Int.reduceEq, Int.reduceToNat, List.length_replicate, List.isEmpty_cons, List.isEmpty_nil, Nat.le_refl, Int.le_refl, Int.sub_zero, Int.sub_self, ne_eq, List.length_append, Int.toNat_zero, Nat.zero_mul, Nat.mul_one, Nat.one_mul, Nat.reduceMul]
  refine Cl_obj (ins := _) (hin := by simp [keysOf, stoOf]) (hk := by simp [keysOf]) (nd := by simp [keysOf]) (h := f_parser_skip 0 94 s rest h hs) ?_
  rw [hsk]
  simp only [go_sem, ↓reduceIte, Nat.reduceEqDiff, Nat.reduceAdd, Nat.reduceLeDiff, reduceCtorEq, Int.natCast_nonneg, List.getElem?_map, Int.toNat_natCast, List.length_map, List.replicate_zero, Bool.bne_false, Bool.bne_true, Nat.reduceLT, Int.reduceLT, Int.reduceLE, Int.reduceEq, Int.reduceToNat, List.length_replicate, List.isEmpty_cons, List.isEmpty_nil, Nat.le_refl, Int.le_refl, Int.sub_zero, Int.sub_self, ne_eq, List.length_append, Int.toNat_zero, Nat.zero_mul, Nat.mul_one, Nat.one_mul, Nat.reduceMul]
  refine W_loop (fun i : List UInt8 × Nat × Nat => i.1.length) (fun i => Suf s i.1 ∧ i.2.1 + i.1.length ≤ s.size ∧ i.2.2 < 2 ^ 256 ∧ classX i.1 (decide (0 < i.2.1)) i.2.2 = x)
    (fun i => [(0, .ptr 0 0), (2, .ptr 100 0), (4, .ptr 102 0), (5, Bo sk.1), (6, I i.2.1)])
    (fun i => [(0, pst s i.1), (100, .box (setL 0)), (102, .box (setL i.2.2))])
    (sk.2, 0, 0) ⟨hsuf, by have := hsuf.len; simpa using this, Nat.two_pow_pos _, by simpa using hx⟩ ?_ ?_
  · exact (subL [] [] (by simp [envS, go_sem, wkV, wkL, AV.ids, idsL, keysOf, ren, stoOf, slTrees, AV.asOwn, rowPart, AV.isNil, setL, pst, cwL] <;> assumption) (by simp [stoS, go_sem, wkV, wkL, wkO, AV.ids, Ob.ids, idsL, keysOf, ren, AV.one, stoOf, slTrees, AV.asOwn, rowPart, AV.isNil, setL, pst, cwL] <;> assumption) (by simp [keysOf, ren]) (by simp [stoOf, keysOf, ren]) (by simp [keysOf, ren]) (by simp [keysOf, ren]))
  · rintro ⟨l, k, n⟩ ⟨hl, hk, hn, hr⟩
    simp only at hl hk hn hr
    simp only [go_sem, ↓reduceIte, Nat.reduceEqDiff, Nat.reduceAdd, Nat.reduceLeDiff, reduceCtorEq, Int.natCast_nonneg, List.getElem?_map, Int.toNat_natCast, List.length_map, List.replicate_zero, Bool.bne_false, Bool.bne_true, Nat.reduceLT, Int.reduceLT, Int.reduceLE, Int.reduceEq, Int.reduceToNat, List.length_replicate, List.isEmpty_cons, List.isEmpty_nil, Nat.le_refl, Int.le_refl, Int.sub_zero, Int.sub_self, ne_eq, List.length_append, Int.toNat_zero, Nat.zero_mul, Nat.mul_one, Nat.one_mul, Nat.reduceMul]
    refine Cl_obj (ins := _) (hin := by simp [keysOf, stoOf]) (hk := by simp [keysOf]) (nd := by simp [keysOf]) (h := f_parser_next 0 s l hl hs) ?_
    cases l with
    | nil =>
      simp only [classX] at hr
      subst hr
      simp only [go_sem, nextM, ↓reduceIte, Nat.reduceEqDiff, Nat.reduceAdd, Nat.reduceLeDiff, reduceCtorEq, Int.natCast_nonneg, List.getElem?_map, Int.toNat_natCast, List.length_map, List.replicate_zero, Bool.bne_false, Bool.bne_true, Nat.reduceLT, Int.reduceLT, Int.reduceLE, Int.reduceEq, Int.reduceToNat, List.length_replicate, List.isEmpty_cons, List.isEmpty_nil, Nat.le_refl, Int.le_refl, Int.sub_zero, Int.sub_self, ne_eq, List.length_append, Int.toNat_zero, Nat.zero_mul, Nat.mul_one, Nat.one_mul, Nat.reduceMul]
      refine wends2 [] [] (by first | exact Or.inl rfl | exact Or.inr rfl) ?_ (by simp [AV.ids, idsL, keysOf]) (by simp [stoS, wkO, ls_cons, ls_nil, stoOf, ren, keysOf, Ob.ids, wkV, wkL, AV.one, idsL, AV.ids, setL, pst, cwL] <;> assumption) (by simp [keysOf, ren]) (by simp [stoOf, keysOf, ren]) (by simp [keysOf, ren]) (by simp [keysOf, ren])
      simp only [go_sem, r_needle_parser_class, exists_eq_left', Option.some.injEq, ↓reduceIte, Nat.reduceEqDiff, Nat.reduceAdd, Nat.reduceLeDiff, reduceCtorEq, Int.natCast_nonneg, List.getElem?_map, Int.toNat_natCast, List.length_map, List.replicate_zero, Bool.bne_false, Bool.bne_true, Nat.reduceLT, Int.reduceLT, Int.reduceLE, Int.reduceEq, Int.reduceToNat, List.length_replicate, List.isEmpty_cons, List.isEmpty_nil, Nat.le_refl, Int.le_refl, Int.sub_zero, Int.sub_self, ne_eq, List.length_append, Int.toNat_zero, Nat.zero_mul, Nat.mul_one, Nat.one_mul, Nat.reduceMul]
      simp [wkV, wkL, slTrees, AV.asOwn, rowPart, stoOf, AV.isNil]
    | cons c r =>
      have hc := u8_lt c
      have hlr : Suf s r := hl.tail
      have hlen := hl.len
      simp at hlen hk
      cases h93 : decide (c.toNat = 93)
      · simp at h93
        simp only [go_sem, nextM, show decide (c.toNat = 93) = false from by simp [h93], ↓reduceIte, Nat.reduceEqDiff, Nat.reduceAdd, Nat.reduceLeDiff, reduceCtorEq, Int.natCast_nonneg, List.getElem?_map, Int.toNat_natCast, List.length_map, List.replicate_zero, Bool.bne_false, Bool.bne_true, Nat.reduceLT, Int.reduceLT, Int.reduceLE, Int.reduceEq, Int.reduceToNat, List.length_replicate, List.isEmpty_cons, List.isEmpty_nil, Nat.le_refl, Int.le_refl, Int.sub_zero, Int.sub_self, ne_eq, List.length_append, Int.toNat_zero, Nat.zero_mul, Nat.mul_one, Nat.one_mul, Nat.reduceMul]
        refine Cl_obj (ins := _) (hin := by simp [keysOf, stoOf]) (hk := by simp [keysOf]) (nd := by simp [keysOf]) (h := f_parser_ranged 0 s r hlr hs) ?_
        have ek : IntKind.i64.wrap ((k : Int) + 1) = ((k + 1 : Nat) : Int) := by rw [wrap_i64_of (by omega) (by omega)]; omega
        cases hrg : rangedB r
        · have d1 : decide (c.toNat < c.toNat) = false := by simp
          rw [classX_one c r _ n h93 hrg, show n ||| 2 ^ c.toNat = addM n c.toNat 1 from rfl] at hr
          simp only [go_sem, d1, ↓reduceIte, Nat.reduceEqDiff, Nat.reduceAdd, Nat.reduceLeDiff, reduceCtorEq, Int.natCast_nonneg, List.getElem?_map, Int.toNat_natCast, List.length_map, List.replicate_zero, Bool.bne_false, Bool.bne_true, Nat.reduceLT, Int.reduceLT, Int.reduceLE, Int.reduceEq, Int.reduceToNat, List.length_replicate, List.isEmpty_cons, List.isEmpty_nil, Nat.le_refl, Int.le_refl, Int.sub_zero, Int.sub_self, ne_eq, List.length_append, Int.toNat_zero, Nat.zero_mul, Nat.mul_one, Nat.one_mul, Nat.reduceMul]
          refine Cl_obj (ins := _) (hin := by simp [keysOf, stoOf]) (hk := by simp [keysOf]) (nd := by simp [keysOf]) (h := f_set_add 102 n c.toNat c.toNat hn hc hc) ?_
          simp only [go_sem, ek, ↓reduceIte, Nat.reduceEqDiff, Nat.reduceAdd, Nat.reduceLeDiff, reduceCtorEq, Int.natCast_nonneg, List.getElem?_map, Int.toNat_natCast, List.length_map, List.replicate_zero, Bool.bne_false, Bool.bne_true, Nat.reduceLT, Int.reduceLT, Int.reduceLE, Int.reduceEq, Int.reduceToNat, List.length_replicate, List.isEmpty_cons, List.isEmpty_nil, Nat.le_refl, Int.le_refl, Int.sub_zero, Int.sub_self, ne_eq, List.length_append, Int.toNat_zero, Nat.zero_mul, Nat.mul_one, Nat.one_mul, Nat.reduceMul]
          refine rd_of (r, k + 1, addM n c.toNat (c.toNat + 1 - c.toNat)) (by simp) ⟨hlr, by simp only; omega, addM_lt _ _ _ hn (by omega), by rw [Nat.add_sub_cancel_left]; simpa using hr⟩ ?_
          exact (subL [] [] (by simp [envS, go_sem, wkV, wkL, AV.ids, idsL, keysOf, ren, stoOf, slTrees, AV.asOwn, rowPart, AV.isNil, setL, pst, cwL] <;> assumption) (by simp [stoS, go_sem, wkV, wkL, wkO, AV.ids, Ob.ids, idsL, keysOf, ren, AV.one, stoOf, slTrees, AV.asOwn, rowPart, AV.isNil, setL, pst, cwL] <;> assumption) (by simp [keysOf, ren]) (by simp [stoOf, keysOf, ren]) (by simp [keysOf, ren]) (by simp [keysOf, ren]))
        · obtain ⟨d, x2, r', rfl⟩ := ranged_shape hrg
          rw [classX_range c d x2 r' _ n h93 hrg] at hr
          simp at hlen hk
          obtain ⟨g1, g2, g3⟩ := suf_one hlr
          simp only [List.length_cons] at g1 g2 g3
          have e1 : IntKind.i64.wrap (((s.size - (r'.length + 1 + 1) : Nat) : Int) + 1) = ((s.size - (r'.length + 1) : Nat) : Int) := by rw [wrap_i64_of (by omega) (by omega)]; omega
          simp only [go_sem, e1, ↓reduceIte, Nat.reduceEqDiff, Nat.reduceAdd, Nat.reduceLeDiff, reduceCtorEq, Int.natCast_nonneg, List.getElem?_map, Int.toNat_natCast, List.length_map, List.replicate_zero, Bool.bne_false, Bool.bne_true, Nat.reduceLT, Int.reduceLT, Int.reduceLE, Int.reduceEq, Int.reduceToNat, List.length_replicate, List.isEmpty_cons, List.isEmpty_nil, Nat.le_refl, Int.le_refl, Int.sub_zero, Int.sub_self, ne_eq, List.length_append, Int.toNat_zero, Nat.zero_mul, Nat.mul_one, Nat.one_mul, Nat.reduceMul]
          refine Cl_obj (ins := _) (hin := by simp [keysOf, stoOf]) (hk := by simp [keysOf]) (nd := by simp [keysOf]) (h := f_parser_next 0 s (x2 :: r') hlr.tail hs) ?_
          have hx2 := u8_lt x2
          cases hlt : decide (x2.toNat < c.toNat)
          · rw [if_neg (by simpa using hlt)] at hr
            simp only [go_sem, nextM, hlt, ↓reduceIte, Nat.reduceEqDiff, Nat.reduceAdd, Nat.reduceLeDiff, reduceCtorEq, Int.natCast_nonneg, List.getElem?_map, Int.toNat_natCast, List.length_map, List.replicate_zero, Bool.bne_false, Bool.bne_true, Nat.reduceLT, Int.reduceLT, Int.reduceLE, Int.reduceEq, Int.reduceToNat, List.length_replicate, List.isEmpty_cons, List.isEmpty_nil, Nat.le_refl, Int.le_refl, Int.sub_zero, Int.sub_self, ne_eq, List.length_append, Int.toNat_zero, Nat.zero_mul, Nat.mul_one, Nat.one_mul, Nat.reduceMul]
            refine Cl_obj (ins := _) (hin := by simp [keysOf, stoOf]) (hk := by simp [keysOf]) (nd := by simp [keysOf]) (h := f_set_add 102 n c.toNat x2.toNat hn hc hx2) ?_
            simp only [go_sem, ek, ↓reduceIte, Nat.reduceEqDiff, Nat.reduceAdd, Nat.reduceLeDiff, reduceCtorEq, Int.natCast_nonneg, List.getElem?_map, Int.toNat_natCast, List.length_map, List.replicate_zero, Bool.bne_false, Bool.bne_true, Nat.reduceLT, Int.reduceLT, Int.reduceLE, Int.reduceEq, Int.reduceToNat, List.length_replicate, List.isEmpty_cons, List.isEmpty_nil, Nat.le_refl, Int.le_refl, Int.sub_zero, Int.sub_self, ne_eq, List.length_append, Int.toNat_zero, Nat.zero_mul, Nat.mul_one, Nat.one_mul, Nat.reduceMul]
            refine rd_of (r', k + 1, addM n c.toNat (x2.toNat + 1 - c.toNat)) (by simp; omega) ⟨hlr.tail.tail, by simp only; omega, addM_lt _ _ _ hn (by omega), by simpa using hr⟩ ?_
            exact (subL [] [] (by simp [envS, go_sem, wkV, wkL, AV.ids, idsL, keysOf, ren, stoOf, slTrees, AV.asOwn, rowPart, AV.isNil, setL, pst, cwL] <;> assumption) (by simp [stoS, go_sem, wkV, wkL, wkO, AV.ids, Ob.ids, idsL, keysOf, ren, AV.one, stoOf, slTrees, AV.asOwn, rowPart, AV.isNil, setL, pst, cwL] <;> assumption) (by simp [keysOf, ren]) (by simp [stoOf, keysOf, ren]) (by simp [keysOf, ren]) (by simp [keysOf, ren]))
          · rw [if_pos (by simpa using hlt)] at hr
            subst hr
            simp only [go_sem, nextM, hlt, ↓reduceIte, Nat.reduceEqDiff, Nat.reduceAdd, Nat.reduceLeDiff, reduceCtorEq, Int.natCast_nonneg, List.getElem?_map, Int.toNat_natCast, List.length_map, List.replicate_zero, Bool.bne_false, Bool.bne_true, Nat.reduceLT, Int.reduceLT, Int.reduceLE, Int.reduceEq, Int.reduceToNat, List.length_replicate, List.isEmpty_cons, List.isEmpty_nil, Nat.le_refl, Int.le_refl, Int.sub_zero, Int.sub_self, ne_eq, List.length_append, Int.toNat_zero, Nat.zero_mul, Nat.mul_one, Nat.one_mul, Nat.reduceMul]
            refine wends2 [] [] (by first | exact Or.inl rfl | exact Or.inr rfl) ?_ (by simp [AV.ids, idsL, keysOf]) (by simp [stoS, wkO, ls_cons, ls_nil, stoOf, ren, keysOf, Ob.ids, wkV, wkL, AV.one, idsL, AV.ids, setL, pst, cwL] <;> assumption) (by simp [keysOf, ren]) (by simp [stoOf, keysOf, ren]) (by simp [keysOf, ren]) (by simp [keysOf, ren])
            simp only [go_sem, r_needle_parser_class, exists_eq_left', Option.some.injEq, ↓reduceIte, Nat.reduceEqDiff, Nat.reduceAdd, Nat.reduceLeDiff, reduceCtorEq, Int.natCast_nonneg, List.getElem?_map, Int.toNat_natCast, List.length_map, List.replicate_zero, Bool.bne_false, Bool.bne_true, Nat.reduceLT, Int.reduceLT, Int.reduceLE, Int.reduceEq, Int.reduceToNat, List.length_replicate, List.isEmpty_cons, List.isEmpty_nil, Nat.le_refl, Int.le_refl, Int.sub_zero, Int.sub_self, ne_eq, List.length_append, Int.toNat_zero, Nat.zero_mul, Nat.mul_one, Nat.one_mul, Nat.reduceMul]
            simp [wkV, wkL, slTrees, AV.asOwn, rowPart, stoOf, AV.isNil]
      · simp at h93
        rw [classX_end c r _ n h93] at hr
        subst hr
        cases hk0 : decide (k = 0)
        · simp at hk0
          simp only [go_sem, nextM, h93, show decide ((k : Int) = 0) = false from by simp [hk0], decide_true, ↓reduceIte, Nat.reduceEqDiff, Nat.reduceAdd, Nat.reduceLeDiff, reduceCtorEq, Int.natCast_nonneg, List.getElem?_map, Int.toNat_natCast, List.length_map, List.replicate_zero, Bool.bne_false, Bool.bne_true, Nat.reduceLT, Int.reduceLT, Int.reduceLE, Int.reduceEq, Int.reduceToNat, List.length_replicate, List.isEmpty_cons, List.isEmpty_nil, Nat.le_refl, Int.le_refl, Int.sub_zero, Int.sub_self, ne_eq, List.length_append, Int.toNat_zero, Nat.zero_mul, Nat.mul_one, Nat.one_mul, Nat.reduceMul]
          have hkp : 0 < k := by omega
          cases hs1 : sk.1
          · simp only [go_sem, hs1, ↓reduceIte, Nat.reduceEqDiff, Nat.reduceAdd, Nat.reduceLeDiff, reduceCtorEq, Int.natCast_nonneg, List.getElem?_map, Int.toNat_natCast, List.length_map, List.replicate_zero, Bool.bne_false, Bool.bne_true, Nat.reduceLT, Int.reduceLT, Int.reduceLE, Int.reduceEq, Int.reduceToNat, List.length_replicate, List.isEmpty_cons, List.isEmpty_nil, Nat.le_refl, Int.le_refl, Int.sub_zero, Int.sub_self, ne_eq, List.length_append, Int.toNat_zero, Nat.zero_mul, Nat.mul_one, Nat.one_mul, Nat.reduceMul]
            refine wends2 [] [] (by first | exact Or.inl rfl | exact Or.inr rfl) ?_ (by simp [AV.ids, idsL, keysOf]) (by simp [stoS, wkO, ls_cons, ls_nil, stoOf, ren, keysOf, Ob.ids, wkV, wkL, AV.one, idsL, AV.ids, setL, pst, cwL] <;> assumption) (by simp [keysOf, ren]) (by simp [stoOf, keysOf, ren]) (by simp [keysOf, ren]) (by simp [keysOf, ren])
            simp only [go_sem, r_needle_parser_class, exists_eq_left', Option.some.injEq, ↓reduceIte, Nat.reduceEqDiff, Nat.reduceAdd, Nat.reduceLeDiff, reduceCtorEq, Int.natCast_nonneg, List.getElem?_map, Int.toNat_natCast, List.length_map, List.replicate_zero, Bool.bne_false, Bool.bne_true, Nat.reduceLT, Int.reduceLT, Int.reduceLE, Int.reduceEq, Int.reduceToNat, List.length_replicate, List.isEmpty_cons, List.isEmpty_nil, Nat.le_refl, Int.le_refl, Int.sub_zero, Int.sub_self, ne_eq, List.length_append, Int.toNat_zero, Nat.zero_mul, Nat.mul_one, Nat.one_mul, Nat.reduceMul]
            simp [wkV, wkL, slTrees, AV.asOwn, rowPart, stoOf, AV.isNil, hkp]
          · simp only [go_sem, hs1, ↓reduceIte, Nat.reduceEqDiff, Nat.reduceAdd, Nat.reduceLeDiff, reduceCtorEq, Int.natCast_nonneg, List.getElem?_map, Int.toNat_natCast, List.length_map, List.replicate_zero, Bool.bne_false, Bool.bne_true, Nat.reduceLT, Int.reduceLT, Int.reduceLE, Int.reduceEq, Int.reduceToNat, List.length_replicate, List.isEmpty_cons, List.isEmpty_nil, Nat.le_refl, Int.le_refl, Int.sub_zero, Int.sub_self, ne_eq, List.length_append, Int.toNat_zero, Nat.zero_mul, Nat.mul_one, Nat.one_mul, Nat.reduceMul]
            refine W_loop (fun j : Nat => 4 - j) (fun j => j ≤ 4)
              (fun j => [(0, .ptr 0 0), (2, .ptr 100 0), (4, .ptr 102 0), (36, I j)])
              (fun j => [(0, pst s r), (100, .box (setL 0)), (102, .box (cwL n j))]) 0 (by omega) ?_ ?_
            · rw [cwL_zero]
              exact (subL [] [] (by simp [envS, go_sem, wkV, wkL, AV.ids, idsL, keysOf, ren, stoOf, slTrees, AV.asOwn, rowPart, AV.isNil, setL, pst, cwL] <;> assumption) (by simp [stoS, go_sem, wkV, wkL, wkO, AV.ids, Ob.ids, idsL, keysOf, ren, AV.one, stoOf, slTrees, AV.asOwn, rowPart, AV.isNil, setL, pst, cwL] <;> assumption) (by simp [keysOf, ren]) (by simp [stoOf, keysOf, ren]) (by simp [keysOf, ren]) (by simp [keysOf, ren]))
            · intro j hj
              have j4 : j = 0 ∨ j = 1 ∨ j = 2 ∨ j = 3 ∨ j = 4 := by omega
              rcases j4 with rfl | rfl | rfl | rfl | rfl
              · have hw := u64_not (word_lt n 0)
                ((try simp only [go_sem, cwL, show decide (((0 : Nat) : Int) < 4) = true from rfl, show (((0 : Nat) : Int) < ((4 : Nat) : Int)) from by decide, hw, ↓reduceIte, Nat.reduceEqDiff, Nat.reduceAdd, Nat.reduceLeDiff, reduceCtorEq, Int.natCast_nonneg, List.getElem?_map, Int.toNat_natCast, List.length_map, List.replicate_zero, Bool.bne_false, Bool.bne_true, Nat.reduceLT, Int.reduceLT, Int.reduceLE, Int.reduceEq, Int.reduceToNat, List.length_replicate, List.isEmpty_cons, List.isEmpty_nil, Nat.le_refl, Int.le_refl, Int.sub_zero, Int.sub_self, ne_eq, List.length_append, Int.toNat_zero, Nat.zero_mul, Nat.mul_one, Nat.one_mul, Nat.reduceMul]); repeat (simp (disch := omega) only [wrap_i64_of, i64_quo, i64_rem, sdiv, smod]; (try simp only [go_sem, cwL, show decide (((0 : Nat) : Int) < 4) = true from rfl, show (((0 : Nat) : Int) < ((4 : Nat) : Int)) from by decide, hw, ↓reduceIte, Nat.reduceEqDiff, Nat.reduceAdd, Nat.reduceLeDiff, reduceCtorEq, Int.natCast_nonneg, List.getElem?_map, Int.toNat_natCast, List.length_map, List.replicate_zero, Bool.bne_false, Bool.bne_true, Nat.reduceLT, Int.reduceLT, Int.reduceLE, Int.reduceEq, Int.reduceToNat, List.length_replicate, List.isEmpty_cons, List.isEmpty_nil, Nat.le_refl, Int.le_refl, Int.sub_zero, Int.sub_self, ne_eq, List.length_append, Int.toNat_zero, Nat.zero_mul, Nat.mul_one, Nat.one_mul, Nat.reduceMul])))
                refine rd_of 1 (by first | omega | (simp only; omega)) (by first | omega | (simp only; omega)) ?_
                exact (subL [] [] (by simp [envS, go_sem, wkV, wkL, AV.ids, idsL, keysOf, ren, stoOf, slTrees, AV.asOwn, rowPart, AV.isNil, setL, pst, cwL] <;> assumption) (by simp [stoS, go_sem, wkV, wkL, wkO, AV.ids, Ob.ids, idsL, keysOf, ren, AV.one, stoOf, slTrees, AV.asOwn, rowPart, AV.isNil, setL, pst, cwL] <;> assumption) (by simp [keysOf, ren]) (by simp [stoOf, keysOf, ren]) (by simp [keysOf, ren]) (by simp [keysOf, ren]))
              · have hw := u64_not (word_lt n 1)
                ((try simp only [go_sem, cwL, show decide (((1 : Nat) : Int) < 4) = true from rfl, show (((1 : Nat) : Int) < ((4 : Nat) : Int)) from by decide, hw, ↓reduceIte, Nat.reduceEqDiff, Nat.reduceAdd, Nat.reduceLeDiff, reduceCtorEq, Int.natCast_nonneg, List.getElem?_map, Int.toNat_natCast, List.length_map, List.replicate_zero, Bool.bne_false, Bool.bne_true, Nat.reduceLT, Int.reduceLT, Int.reduceLE, Int.reduceEq, Int.reduceToNat, List.length_replicate, List.isEmpty_cons, List.isEmpty_nil, Nat.le_refl, Int.le_refl, Int.sub_zero, Int.sub_self, ne_eq, List.length_append, Int.toNat_zero, Nat.zero_mul, Nat.mul_one, Nat.one_mul, Nat.reduceMul]); repeat (simp (disch := omega) only [wrap_i64_of, i64_quo, i64_rem, sdiv, smod]; (try simp only [go_sem, cwL, show decide (((1 : Nat) : Int) < 4) = true from rfl, show (((1 : Nat) : Int) < ((4 : Nat) : Int)) from by decide, hw, ↓reduceIte, Nat.reduceEqDiff, Nat.reduceAdd, Nat.reduceLeDiff, reduceCtorEq, Int.natCast_nonneg, List.getElem?_map, Int.toNat_natCast, List.length_map, List.replicate_zero, Bool.bne_false, Bool.bne_true, Nat.reduceLT, Int.reduceLT, Int.reduceLE, Int.reduceEq, Int.reduceToNat, List.length_replicate, List.isEmpty_cons, List.isEmpty_nil, Nat.le_refl, Int.le_refl, Int.sub_zero, Int.sub_self, ne_eq, List.length_append, Int.toNat_zero, Nat.zero_mul, Nat.mul_one, Nat.one_mul, Nat.reduceMul])))
                refine rd_of 2 (by first | omega | (simp only; omega)) (by first | omega | (simp only; omega)) ?_
                exact (subL [] [] (by simp [envS, go_sem, wkV, wkL, AV.ids, idsL, keysOf, ren, stoOf, slTrees, AV.asOwn, rowPart, AV.isNil, setL, pst, cwL] <;> assumption) (by simp [stoS, go_sem, wkV, wkL, wkO, AV.ids, Ob.ids, idsL, keysOf, ren, AV.one, stoOf, slTrees, AV.asOwn, rowPart, AV.isNil, setL, pst, cwL] <;> assumption) (by simp [keysOf, ren]) (by simp [stoOf, keysOf, ren]) (by simp [keysOf, ren]) (by simp [keysOf, ren]))
              · have hw := u64_not (word_lt n 2)
                ((try simp only [go_sem, cwL, show decide (((2 : Nat) : Int) < 4) = true from rfl, show (((2 : Nat) : Int) < ((4 : Nat) : Int)) from by decide, hw, ↓reduceIte, Nat.reduceEqDiff, Nat.reduceAdd, Nat.reduceLeDiff, reduceCtorEq, Int.natCast_nonneg, List.getElem?_map, Int.toNat_natCast, List.length_map, List.replicate_zero, Bool.bne_false, Bool.bne_true, Nat.reduceLT, Int.reduceLT, Int.reduceLE, Int.reduceEq, Int.reduceToNat, List.length_replicate, List.isEmpty_cons, List.isEmpty_nil, Nat.le_refl, Int.le_refl, Int.sub_zero, Int.sub_self, ne_eq, List.length_append, Int.toNat_zero, Nat.zero_mul, Nat.mul_one, Nat.one_mul, Nat.reduceMul]); repeat (simp (disch := omega) only [wrap_i64_of, i64_quo, i64_rem, sdiv, smod]; (try simp only [go_sem, cwL, show decide (((2 : Nat) : Int) < 4) = true from rfl, show (((2 : Nat) : Int) < ((4 : Nat) : Int)) from by decide, hw, ↓reduceIte, Nat.reduceEqDiff, Nat.reduceAdd, Nat.reduceLeDiff, reduceCtorEq, Int.natCast_nonneg, List.getElem?_map, Int.toNat_natCast, List.length_map, List.replicate_zero, Bool.bne_false, Bool.bne_true, Nat.reduceLT, Int.reduceLT, Int.reduceLE, Int.reduceEq, Int.reduceToNat, List.length_replicate, List.isEmpty_cons, List.isEmpty_nil, Nat.le_refl, Int.le_refl, Int.sub_zero, Int.sub_self, ne_eq, List.length_append, Int.toNat_zero, Nat.zero_mul, Nat.mul_one, Nat.one_mul, Nat.reduceMul])))
                refine rd_of 3 (by first | omega | (simp only; omega)) (by first | omega | (simp only; omega)) ?_
                exact (subL [] [] (by simp [envS, go_sem, wkV, wkL, AV.ids, idsL, keysOf, ren, stoOf, slTrees, AV.asOwn, rowPart, AV.isNil, setL, pst, cwL] <;> assumption) (by simp [stoS, go_sem, wkV, wkL, wkO, AV.ids, Ob.ids, idsL, keysOf, ren, AV.one, stoOf, slTrees, AV.asOwn, rowPart, AV.isNil, setL, pst, cwL] <;> assumption) (by simp [keysOf, ren]) (by simp [stoOf, keysOf, ren]) (by simp [keysOf, ren]) (by simp [keysOf, ren]))
              · have hw := u64_not (word_lt n 3)
                ((try simp only [go_sem, cwL, show decide (((3 : Nat) : Int) < 4) = true from rfl, show (((3 : Nat) : Int) < ((4 : Nat) : Int)) from by decide, hw, ↓reduceIte, Nat.reduceEqDiff, Nat.reduceAdd, Nat.reduceLeDiff, reduceCtorEq, Int.natCast_nonneg, List.getElem?_map, Int.toNat_natCast, List.length_map, List.replicate_zero, Bool.bne_false, Bool.bne_true, Nat.reduceLT, Int.reduceLT, Int.reduceLE, Int.reduceEq, Int.reduceToNat, List.length_replicate, List.isEmpty_cons, List.isEmpty_nil, Nat.le_refl, Int.le_refl, Int.sub_zero, Int.sub_self, ne_eq, List.length_append, Int.toNat_zero, Nat.zero_mul, Nat.mul_one, Nat.one_mul, Nat.reduceMul]); repeat (simp (disch := omega) only [wrap_i64_of, i64_quo, i64_rem, sdiv, smod]; (try simp only [go_sem, cwL, show decide (((3 : Nat) : Int) < 4) = true from rfl, show (((3 : Nat) : Int) < ((4 : Nat) : Int)) from by decide, hw, ↓reduceIte, Nat.reduceEqDiff, Nat.reduceAdd, Nat.reduceLeDiff, reduceCtorEq, Int.natCast_nonneg, List.getElem?_map, Int.toNat_natCast, List.length_map, List.replicate_zero, Bool.bne_false, Bool.bne_true, Nat.reduceLT, Int.reduceLT, Int.reduceLE, Int.reduceEq, Int.reduceToNat, List.length_replicate, List.isEmpty_cons, List.isEmpty_nil, Nat.le_refl, Int.le_refl, Int.sub_zero, Int.sub_self, ne_eq, List.length_append, Int.toNat_zero, Nat.zero_mul, Nat.mul_one, Nat.one_mul, Nat.reduceMul])))
                refine rd_of 4 (by first | omega | (simp only; omega)) (by first | omega | (simp only; omega)) ?_
                exact (subL [] [] (by simp [envS, go_sem, wkV, wkL, AV.ids, idsL, keysOf, ren, stoOf, slTrees, AV.asOwn, rowPart, AV.isNil, setL, pst, cwL] <;> assumption) (by simp [stoS, go_sem, wkV, wkL, wkO, AV.ids, Ob.ids, idsL, keysOf, ren, AV.one, stoOf, slTrees, AV.asOwn, rowPart, AV.isNil, setL, pst, cwL] <;> assumption) (by simp [keysOf, ren]) (by simp [stoOf, keysOf, ren]) (by simp [keysOf, ren]) (by simp [keysOf, ren]))
              · simp only [go_sem, show decide (((4 : Nat) : Int) < 4) = false from rfl, ↓reduceIte, Nat.reduceEqDiff, Nat.reduceAdd, Nat.reduceLeDiff, reduceCtorEq, Int.natCast_nonneg, List.getElem?_map, Int.toNat_natCast, List.length_map, List.replicate_zero, Bool.bne_false, Bool.bne_true, Nat.reduceLT, Int.reduceLT, Int.reduceLE, Int.reduceEq, Int.reduceToNat, List.length_replicate, List.isEmpty_cons, List.isEmpty_nil, Nat.le_refl, Int.le_refl, Int.sub_zero, Int.sub_self, ne_eq, List.length_append, Int.toNat_zero, Nat.zero_mul, Nat.mul_one, Nat.one_mul, Nat.reduceMul]
                rw [cwL_four hn]
                simp only [go_sem, ↓reduceIte, Nat.reduceEqDiff, Nat.reduceAdd, Nat.reduceLeDiff, reduceCtorEq, Int.natCast_nonneg, List.getElem?_map, Int.toNat_natCast, List.length_map, List.replicate_zero, Bool.bne_false, Bool.bne_true, Nat.reduceLT, Int.reduceLT, Int.reduceLE, Int.reduceEq, Int.reduceToNat, List.length_replicate, List.isEmpty_cons, List.isEmpty_nil, Nat.le_refl, Int.le_refl, Int.sub_zero, Int.sub_self, ne_eq, List.length_append, Int.toNat_zero, Nat.zero_mul, Nat.mul_one, Nat.one_mul, Nat.reduceMul]
                refine wends2 [] [] (by first | exact Or.inl rfl | exact Or.inr rfl) ?_ (by simp [AV.ids, idsL, keysOf]) (by simp [stoS, wkO, ls_cons, ls_nil, stoOf, ren, keysOf, Ob.ids, wkV, wkL, AV.one, idsL, AV.ids, setL, pst, cwL] <;> assumption) (by simp [keysOf, ren]) (by simp [stoOf, keysOf, ren]) (by simp [keysOf, ren]) (by simp [keysOf, ren])
                simp only [go_sem, r_needle_parser_class, exists_eq_left', Option.some.injEq, ↓reduceIte, Nat.reduceEqDiff, Nat.reduceAdd, Nat.reduceLeDiff, reduceCtorEq, Int.natCast_nonneg, List.getElem?_map, Int.toNat_natCast, List.length_map, List.replicate_zero, Bool.bne_false, Bool.bne_true, Nat.reduceLT, Int.reduceLT, Int.reduceLE, Int.reduceEq, Int.reduceToNat, List.length_replicate, List.isEmpty_cons, List.isEmpty_nil, Nat.le_refl, Int.le_refl, Int.sub_zero, Int.sub_self, ne_eq, List.length_append, Int.toNat_zero, Nat.zero_mul, Nat.mul_one, Nat.one_mul, Nat.reduceMul]
                simp [wkV, wkL, slTrees, AV.asOwn, rowPart, stoOf, AV.isNil, hkp]
        · simp at hk0
          subst hk0
          simp only [go_sem, nextM, h93, decide_true, show decide (((0 : Nat) : Int) = 0) = true from rfl, ↓reduceIte, Nat.reduceEqDiff, Nat.reduceAdd, Nat.reduceLeDiff, reduceCtorEq, Int.natCast_nonneg, List.getElem?_map, Int.toNat_natCast, List.length_map, List.replicate_zero, Bool.bne_false, Bool.bne_true, Nat.reduceLT, Int.reduceLT, Int.reduceLE, Int.reduceEq, Int.reduceToNat, List.length_replicate, List.isEmpty_cons, List.isEmpty_nil, Nat.le_refl, Int.le_refl, Int.sub_zero, Int.sub_self, ne_eq, List.length_append, Int.toNat_zero, Nat.zero_mul, Nat.mul_one, Nat.one_mul, Nat.reduceMul]
          refine wends2 [] [] (by first | exact Or.inl rfl | exact Or.inr rfl) ?_ (by simp [AV.ids, idsL, keysOf]) (by simp [stoS, wkO, ls_cons, ls_nil, stoOf, ren, keysOf, Ob.ids, wkV, wkL, AV.one, idsL, AV.ids, setL, pst, cwL] <;> assumption) (by simp [keysOf, ren]) (by simp [stoOf, keysOf, ren]) (by simp [keysOf, ren]) (by simp [keysOf, ren])
          simp only [go_sem, r_needle_parser_class, exists_eq_left', Option.some.injEq, ↓reduceIte, Nat.reduceEqDiff, Nat.reduceAdd, Nat.reduceLeDiff, reduceCtorEq, Int.natCast_nonneg, List.getElem?_map, Int.toNat_natCast, List.length_map, List.replicate_zero, Bool.bne_false, Bool.bne_true, Nat.reduceLT, Int.reduceLT, Int.reduceLE, Int.reduceEq, Int.reduceToNat, List.length_replicate, List.isEmpty_cons, List.isEmpty_nil, Nat.le_refl, Int.le_refl, Int.sub_zero, Int.sub_self, ne_eq, List.length_append, Int.toNat_zero, Nat.zero_mul, Nat.mul_one, Nat.one_mul, Nat.reduceMul]
          simp [wkV, wkL, slTrees, AV.asOwn, rowPart, stoOf, AV.isNil]

end Go.Proofs.Ytgnokggmbkhnbaa
