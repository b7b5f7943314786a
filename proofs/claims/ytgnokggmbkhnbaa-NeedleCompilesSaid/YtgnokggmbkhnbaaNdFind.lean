/- Contracts of what finds a pattern. No statement of the seat is proved here. -/
import Derived.Test.YtgnokggmbkhnbaaNdFindM
import Derived.Test.YtgnokggmbkhnbaaNdComp
set_option linter.unusedSimpArgs false
set_option linter.unusedVariables false
namespace Go.Proofs.Ytgnokggmbkhnbaa
open Go Go.Sx

theorem take_map_len' (l : List Bool) (n : Nat) (h : l.length = n) : (l.map bT).take n = l.map bT := by rw [List.take_of_length_le]; simp [h]

theorem getD_map (l : List Bool) (i : Nat) (h : i < l.length) : (l.map bT)[i]? = some (bT (l.getD i false)) := by
  rw [List.getElem?_map, List.getD_eq_getElem?_getD, List.getElem?_eq_getElem h]; rfl

theorem item_get {is : List Item} {i : Nat} {x : Item} (h : is[i]? = some x) : starAt is i = x.2 ∧ ∀ b, fitAt is i b = x.1.testBit b := by
  simp [starAt, fitAt, h]

theorem f_states_reach0 (is : List Item) (hn : is.length ≤ 100000) : ∀ (s : List Bool) (i : Nat), s.length = is.length + 1 → i ≤ is.length →
    Meets Try.prog E0 n_needle_states_reach [.own 0 1 0 (is.length + 1) true, itemsV is, I i] [(0, .row 1 true (s.map bT))] (.tp []) [(0, .row 1 true ((reachM is (is.length + 1) i s).map bT))] := by
  intro s i hs hi
  generalize hout : reachM is (is.length + 1) i s = out
  refine m_needle_states_reach (by simp) (shut_of (by simp [idsL, AV.ids, keysOf, setL, pst]) (by simp [Ob.live, Ob.ids, keysOf, idsL, AV.ids, setL, pst])) (shut_of (by simp [idsL, AV.ids, keysOf, setL, pst]) (by simp [Ob.live, Ob.ids, keysOf, idsL, AV.ids, setL, pst])) (by simp [keysOf]) (by simp [keysOf]) ?_
  simp only [go_sem, s_needle_states_reach, ↓reduceIte, Nat.reduceEqDiff, Nat.reduceAdd, Nat.reduceLeDiff, reduceCtorEq, Int.natCast_nonneg, List.getElem?_map, Int.toNat_natCast, List.length_map, List.replicate_zero, Bool.bne_false, Bool.bne_true, Nat.reduceLT, Int.reduceLT, Int.reduceLE, Int.reduceEq, Int.reduceToNat, List.length_replicate, List.isEmpty_cons, List.isEmpty_nil, Nat.le_refl, Int.le_refl, Int.sub_zero, Int.sub_self, ne_eq, List.length_append, Int.toNat_zero, Nat.zero_mul, Nat.mul_one, Nat.one_mul, Nat.reduceMul]
  refine W_loop (fun x : Nat × List Bool => is.length + 1 - x.1) (fun x => x.1 ≤ is.length ∧ x.2.length = is.length + 1 ∧ ∃ f, is.length < x.1 + f ∧ reachM is f x.1 x.2 = out)
    (fun x => [(0, .own 0 1 0 (is.length + 1) true), (1, itemsV is), (2, I x.1)])
    (fun x => [(0, .row 1 true (x.2.map bT))])
    (i, s) ⟨hi, hs, is.length + 1, by simp only; omega, hout⟩ ?_ ?_
  · exact (subL [] [] (by simp [envS, go_sem, wkV, wkL, AV.ids, idsL, keysOf, ren, stoOf, slTrees, AV.asOwn, rowPart, AV.isNil, setL, pst] <;> assumption) (by simp [stoS, go_sem, wkV, wkL, wkO, AV.ids, Ob.ids, idsL, keysOf, ren, AV.one, stoOf, slTrees, AV.asOwn, rowPart, AV.isNil, setL, pst] <;> assumption) (by simp [keysOf, ren]) (by simp [stoOf, keysOf, ren]) (by simp [keysOf, ren]) (by simp [keysOf, ren]))
  · rintro ⟨i, s⟩ ⟨hi, hs, f, hf, hr⟩
    simp only at hi hs hf hr
    have hg := getD_map s i (by omega)
    have q1 : (i : Int) < ((is.length + 1 : Nat) : Int) := by omega
    obtain ⟨f, rfl⟩ : ∃ g, f = g + 1 := ⟨f - 1, by omega⟩
    simp only [reachM] at hr
    cases hsi : s.getD i false
    · simp only [hsi, Bool.false_eq_true, if_false] at hr
      have e0 : (s.map bT).set i (bT true) = (s.set i true).map bT := by simp
      simp only [go_sem, q1, hg, hsi, e0, ↓reduceIte, Nat.reduceEqDiff, Nat.reduceAdd, Nat.reduceLeDiff, reduceCtorEq, Int.natCast_nonneg, List.getElem?_map, Int.toNat_natCast, List.length_map, List.replicate_zero, Bool.bne_false, Bool.bne_true, Nat.reduceLT, Int.reduceLT, Int.reduceLE, Int.reduceEq, Int.reduceToNat, List.length_replicate, List.isEmpty_cons, List.isEmpty_nil, Nat.le_refl, Int.le_refl, Int.sub_zero, Int.sub_self, ne_eq, List.length_append, Int.toNat_zero, Nat.zero_mul, Nat.mul_one, Nat.one_mul, Nat.reduceMul]
      obtain hin | hin : i = is.length ∨ i < is.length := by omega
      · subst hin
        have hst : starAt is is.length = false := by simp [starAt]
        simp only [hst, Bool.false_eq_true, if_false] at hr
        subst hr
        simp only [go_sem, decide_true, ↓reduceIte, Nat.reduceEqDiff, Nat.reduceAdd, Nat.reduceLeDiff, reduceCtorEq, Int.natCast_nonneg, List.getElem?_map, Int.toNat_natCast, List.length_map, List.replicate_zero, Bool.bne_false, Bool.bne_true, Nat.reduceLT, Int.reduceLT, Int.reduceLE, Int.reduceEq, Int.reduceToNat, List.length_replicate, List.isEmpty_cons, List.isEmpty_nil, Nat.le_refl, Int.le_refl, Int.sub_zero, Int.sub_self, ne_eq, List.length_append, Int.toNat_zero, Nat.zero_mul, Nat.mul_one, Nat.one_mul, Nat.reduceMul]
        refine wends2 [] [] (by first | exact Or.inl rfl | exact Or.inr rfl) ?_ (by simp [AV.ids, idsL, keysOf]) (by simp [stoS, wkO, ls_cons, ls_nil, stoOf, ren, keysOf, Ob.ids, wkV, wkL, AV.one, idsL, AV.ids, setL, pst] <;> assumption) (by simp [keysOf, ren]) (by simp [stoOf, keysOf, ren]) (by simp [keysOf, ren]) (by simp [keysOf, ren])
        simp only [go_sem, r_needle_states_reach, exists_eq_left', Option.some.injEq, ↓reduceIte, Nat.reduceEqDiff, Nat.reduceAdd, Nat.reduceLeDiff, reduceCtorEq, Int.natCast_nonneg, List.getElem?_map, Int.toNat_natCast, List.length_map, List.replicate_zero, Bool.bne_false, Bool.bne_true, Nat.reduceLT, Int.reduceLT, Int.reduceLE, Int.reduceEq, Int.reduceToNat, List.length_replicate, List.isEmpty_cons, List.isEmpty_nil, Nat.le_refl, Int.le_refl, Int.sub_zero, Int.sub_self, ne_eq, List.length_append, Int.toNat_zero, Nat.zero_mul, Nat.mul_one, Nat.one_mul, Nat.reduceMul]
        simp [wkV, wkL, slTrees, AV.asOwn, rowPart, stoOf, AV.isNil]
      · obtain ⟨x, hx⟩ := get_of_lt hin
        obtain ⟨h1, h2⟩ := item_get hx
        have d1 : decide (i = is.length) = false := by simp; omega
        have ei : IntKind.i64.wrap ((i : Int) + 1) = ((i + 1 : Nat) : Int) := by rw [wrap_i64_of (by omega) (by omega)]; omega
        rw [h1] at hr
        cases hx2 : x.2
        · simp only [hx2, Bool.false_eq_true, if_false] at hr
          subst hr
          simp only [go_sem, d1, hx, itemT, hx2, ↓reduceIte, Nat.reduceEqDiff, Nat.reduceAdd, Nat.reduceLeDiff, reduceCtorEq, Int.natCast_nonneg, List.getElem?_map, Int.toNat_natCast, List.length_map, List.replicate_zero, Bool.bne_false, Bool.bne_true, Nat.reduceLT, Int.reduceLT, Int.reduceLE, Int.reduceEq, Int.reduceToNat, List.length_replicate, List.isEmpty_cons, List.isEmpty_nil, Nat.le_refl, Int.le_refl, Int.sub_zero, Int.sub_self, ne_eq, List.length_append, Int.toNat_zero, Nat.zero_mul, Nat.mul_one, Nat.one_mul, Nat.reduceMul]
          refine wends2 [] [] (by first | exact Or.inl rfl | exact Or.inr rfl) ?_ (by simp [AV.ids, idsL, keysOf]) (by simp [stoS, wkO, ls_cons, ls_nil, stoOf, ren, keysOf, Ob.ids, wkV, wkL, AV.one, idsL, AV.ids, setL, pst] <;> assumption) (by simp [keysOf, ren]) (by simp [stoOf, keysOf, ren]) (by simp [keysOf, ren]) (by simp [keysOf, ren])
          simp only [go_sem, r_needle_states_reach, exists_eq_left', Option.some.injEq, ↓reduceIte, Nat.reduceEqDiff, Nat.reduceAdd, Nat.reduceLeDiff, reduceCtorEq, Int.natCast_nonneg, List.getElem?_map, Int.toNat_natCast, List.length_map, List.replicate_zero, Bool.bne_false, Bool.bne_true, Nat.reduceLT, Int.reduceLT, Int.reduceLE, Int.reduceEq, Int.reduceToNat, List.length_replicate, List.isEmpty_cons, List.isEmpty_nil, Nat.le_refl, Int.le_refl, Int.sub_zero, Int.sub_self, ne_eq, List.length_append, Int.toNat_zero, Nat.zero_mul, Nat.mul_one, Nat.one_mul, Nat.reduceMul]
          simp [wkV, wkL, slTrees, AV.asOwn, rowPart, stoOf, AV.isNil]
        · simp only [hx2, if_true] at hr
          simp only [go_sem, d1, hx, itemT, hx2, ei, ↓reduceIte, Nat.reduceEqDiff, Nat.reduceAdd, Nat.reduceLeDiff, reduceCtorEq, Int.natCast_nonneg, List.getElem?_map, Int.toNat_natCast, List.length_map, List.replicate_zero, Bool.bne_false, Bool.bne_true, Nat.reduceLT, Int.reduceLT, Int.reduceLE, Int.reduceEq, Int.reduceToNat, List.length_replicate, List.isEmpty_cons, List.isEmpty_nil, Nat.le_refl, Int.le_refl, Int.sub_zero, Int.sub_self, ne_eq, List.length_append, Int.toNat_zero, Nat.zero_mul, Nat.mul_one, Nat.one_mul, Nat.reduceMul]
          refine rd_of (i + 1, s.set i true) (by simp; omega) ⟨by simp; omega, by simpa using hs, f, by simp; omega, hr⟩ ?_
          exact (subL [] [] (by simp [envS, go_sem, wkV, wkL, AV.ids, idsL, keysOf, ren, stoOf, slTrees, AV.asOwn, rowPart, AV.isNil, setL, pst] <;> assumption) (by simp [stoS, go_sem, wkV, wkL, wkO, AV.ids, Ob.ids, idsL, keysOf, ren, AV.one, stoOf, slTrees, AV.asOwn, rowPart, AV.isNil, setL, pst] <;> assumption) (by simp [keysOf, ren]) (by simp [stoOf, keysOf, ren]) (by simp [keysOf, ren]) (by simp [keysOf, ren]))
    · simp only [hsi, if_true] at hr
      subst hr
      simp only [go_sem, q1, hg, hsi, ↓reduceIte, Nat.reduceEqDiff, Nat.reduceAdd, Nat.reduceLeDiff, reduceCtorEq, Int.natCast_nonneg, List.getElem?_map, Int.toNat_natCast, List.length_map, List.replicate_zero, Bool.bne_false, Bool.bne_true, Nat.reduceLT, Int.reduceLT, Int.reduceLE, Int.reduceEq, Int.reduceToNat, List.length_replicate, List.isEmpty_cons, List.isEmpty_nil, Nat.le_refl, Int.le_refl, Int.sub_zero, Int.sub_self, ne_eq, List.length_append, Int.toNat_zero, Nat.zero_mul, Nat.mul_one, Nat.one_mul, Nat.reduceMul]
      refine wends2 [] [] (by first | exact Or.inl rfl | exact Or.inr rfl) ?_ (by simp [AV.ids, idsL, keysOf]) (by simp [stoS, wkO, ls_cons, ls_nil, stoOf, ren, keysOf, Ob.ids, wkV, wkL, AV.one, idsL, AV.ids, setL, pst] <;> assumption) (by simp [keysOf, ren]) (by simp [stoOf, keysOf, ren]) (by simp [keysOf, ren]) (by simp [keysOf, ren])
      simp only [go_sem, r_needle_states_reach, exists_eq_left', Option.some.injEq, ↓reduceIte, Nat.reduceEqDiff, Nat.reduceAdd, Nat.reduceLeDiff, reduceCtorEq, Int.natCast_nonneg, List.getElem?_map, Int.toNat_natCast, List.length_map, List.replicate_zero, Bool.bne_false, Bool.bne_true, Nat.reduceLT, Int.reduceLT, Int.reduceLE, Int.reduceEq, Int.reduceToNat, List.length_replicate, List.isEmpty_cons, List.isEmpty_nil, Nat.le_refl, Int.le_refl, Int.sub_zero, Int.sub_self, ne_eq, List.length_append, Int.toNat_zero, Nat.zero_mul, Nat.mul_one, Nat.one_mul, Nat.reduceMul]
      simp [wkV, wkL, slTrees, AV.asOwn, rowPart, stoOf, AV.isNil]

theorem f_states_reach (id : Nat) (is : List Item) (hn : is.length ≤ 100000) (s : List Bool) (i : Nat) (hs : s.length = is.length + 1) (hi : i ≤ is.length) :
    Meets Try.prog E0 n_needle_states_reach [.own id 1 0 (is.length + 1) true, itemsV is, I i] [(id, .row 1 true (s.map bT))] (.tp []) [(id, .row 1 true ((reachM is (is.length + 1) i s).map bT))] := by
  have := (f_states_reach0 is hn s i hs hi).ren (fun _ => id) (by simp [keysOf])
  exact this

theorem word_get (n b : Nat) (hb : b < 256) : (word n (b / 64)).testBit (b % 64) = n.testBit b := by
  rw [word_bit _ _ _ (by omega), show 64 * (b / 64) + b % 64 = b by omega]

theorem and_bit (w k : Nat) : (w &&& 2 ^ k == 0) = !w.testBit k := by
  have h : (w &&& 2 ^ k = 0) ↔ w.testBit k = false := by
    constructor
    · intro h
      have := congrArg (fun x => x.testBit k) h
      simpa [Nat.testBit_and, Nat.testBit_two_pow] using this
    · intro h
      apply Nat.eq_of_testBit_eq
      intro i
      rw [Nat.testBit_and, Nat.testBit_two_pow, Nat.zero_testBit]
      by_cases hi : k = i
      · subst hi; simp [h]
      · simp [hi]
  rw [Bool.eq_iff_iff]; simp [h]

theorem f_needle_Fits (n b : Nat) (st : Bool) (hb : b < 256) : Meets Try.prog E0 n_needle_Fits [itemV (n, st), U8 b] [] (Bo (n.testBit b)) [] := by
  refine m_needle_Fits (by simp) (shut0 rfl) (shut0 rfl) (by simp) (by simp [keysOf]) ?_
  have h6 : b / 2 ^ (min 6 8) = b / 64 := rfl
  have hw : ∀ j, word n j % 18446744073709551616 = word n j := fun j => Nat.mod_eq_of_lt (word_lt n j)
  have hab : ∀ w k : Nat, decide (w &&& 2 ^ k = 0) = !w.testBit k := fun w k => and_bit w k
  have h63 : b % 256 &&& 63 % 256 = b % 64 := by
    rw [Nat.mod_eq_of_lt hb]; exact Nat.and_two_pow_sub_one_eq_mod b 6
  have hmin : min (b % 64) 64 = b % 64 := Nat.min_eq_left (by omega)
  have p0 : 2 ^ (b % 64) % 18446744073709551616 = 2 ^ (b % 64) := Nat.mod_eq_of_lt (Nat.pow_lt_pow_right (n := 64) (by decide) (by omega))
  have h4 : b / 64 = 0 ∨ b / 64 = 1 ∨ b / 64 = 2 ∨ b / 64 = 3 := by omega
  have i4 : ∀ j : Nat, j < 4 → (j : Int) < ((4 : Nat) : Int) := by omega
  have hg := word_get n b hb
  rcases h4 with h4 | h4 | h4 | h4
  all_goals
    rw [h4] at hg
    simp only [go_sem, s_needle_Fits, h6, h63, h4, i4 0 (by decide), i4 1 (by decide), i4 2 (by decide), i4 3 (by decide), setL, hmin, p0, ↓reduceIte, Nat.reduceEqDiff, Nat.reduceAdd, Nat.reduceLeDiff, reduceCtorEq, Int.natCast_nonneg, List.getElem?_map, Int.toNat_natCast, List.length_map, List.replicate_zero, Bool.bne_false, Bool.bne_true, Nat.reduceLT, Int.reduceLT, Int.reduceLE, Int.reduceEq, Int.reduceToNat, List.length_replicate, List.isEmpty_cons, List.isEmpty_nil, Nat.le_refl, Int.le_refl, Int.sub_zero, Int.sub_self, ne_eq, List.length_append, Int.toNat_zero, Nat.zero_mul, Nat.mul_one, Nat.one_mul, Nat.reduceMul]
    refine wends (by first | exact Or.inl rfl | exact Or.inr rfl) ?_ (by first | rfl | simp [AV.ids, idsL])
    simp only [go_sem, r_needle_Fits, ↓reduceIte, Nat.reduceEqDiff, Nat.reduceAdd, Nat.reduceLeDiff, reduceCtorEq, Int.natCast_nonneg, List.getElem?_map, Int.toNat_natCast, List.length_map, List.replicate_zero, Bool.bne_false, Bool.bne_true, Nat.reduceLT, Int.reduceLT, Int.reduceLE, Int.reduceEq, Int.reduceToNat, List.length_replicate, List.isEmpty_cons, List.isEmpty_nil, Nat.le_refl, Int.le_refl, Int.sub_zero, Int.sub_self, ne_eq, List.length_append, Int.toNat_zero, Nat.zero_mul, Nat.mul_one, Nat.one_mul, Nat.reduceMul]
    first | rw [word0 n] | rw [word1 n] | rw [word2 n] | rw [word3 n]
    rw [← hg, hw, hab, Bool.not_not]

theorem f_ref09_Fits (n b : Nat) (st : Bool) (hb : b < 256) : Meets Try.prog E0 n_ref09_Fits [itemV (n, st), U8 b] [] (Bo (n.testBit b)) [] := by
  refine m_ref09_Fits (by simp) (shut0 rfl) (shut0 rfl) (by simp) (by simp [keysOf]) ?_
  have hd : b / 64 % 256 = b / 64 := by omega
  have hmin : min (b % 64) 64 = b % 64 := Nat.min_eq_left (by omega)
  have h4 : b / 64 = 0 ∨ b / 64 = 1 ∨ b / 64 = 2 ∨ b / 64 = 3 := by omega
  have i4 : ∀ j : Nat, j < 4 → (j : Int) < ((4 : Nat) : Int) := by omega
  have hg := word_get n b hb
  have h64 : ¬ (64 : Nat) = 0 := by decide
  rcases h4 with h4 | h4 | h4 | h4
  all_goals
    rw [h4] at hg
    simp only [go_sem, s_ref09_Fits, hd, Nat.zero_mod, h4, i4 0 (by decide), i4 1 (by decide), i4 2 (by decide), i4 3 (by decide), setL, hmin, u8_quo h64, u8_rem h64, ↓reduceIte, Nat.reduceEqDiff, Nat.reduceAdd, Nat.reduceLeDiff, reduceCtorEq, Int.natCast_nonneg, List.getElem?_map, Int.toNat_natCast, List.length_map, List.replicate_zero, Bool.bne_false, Bool.bne_true, Nat.reduceLT, Int.reduceLT, Int.reduceLE, Int.reduceEq, Int.reduceToNat, List.length_replicate, List.isEmpty_cons, List.isEmpty_nil, Nat.le_refl, Int.le_refl, Int.sub_zero, Int.sub_self, ne_eq, List.length_append, Int.toNat_zero, Nat.zero_mul, Nat.mul_one, Nat.one_mul, Nat.reduceMul]
    refine wends (by first | exact Or.inl rfl | exact Or.inr rfl) ?_ (by first | rfl | simp [AV.ids, idsL])
    simp only [go_sem, r_ref09_Fits, ↓reduceIte, Nat.reduceEqDiff, Nat.reduceAdd, Nat.reduceLeDiff, reduceCtorEq, Int.natCast_nonneg, List.getElem?_map, Int.toNat_natCast, List.length_map, List.replicate_zero, Bool.bne_false, Bool.bne_true, Nat.reduceLT, Int.reduceLT, Int.reduceLE, Int.reduceEq, Int.reduceToNat, List.length_replicate, List.isEmpty_cons, List.isEmpty_nil, Nat.le_refl, Int.le_refl, Int.sub_zero, Int.sub_self, ne_eq, List.length_append, Int.toNat_zero, Nat.zero_mul, Nat.mul_one, Nat.one_mul, Nat.reduceMul]
    first | rw [word0 n] | rw [word1 n] | rw [word2 n] | rw [word3 n]
    rw [← hg, Nat.testBit_eq_decide_div_mod_eq, show (1 : Nat) % 18446744073709551616 = 1 from rfl, Nat.and_one_is_mod]
    simp

theorem f_states_step (id : Nat) (is : List Item) (hn : is.length ≤ 100000) (s : List Bool) (hs : s.length = is.length + 1) (b : Nat) (hb : b < 256) :
    Meets Try.prog E0 n_needle_states_step [boolsV s, itemsV is, U8 b] [] (.own id 1 0 (is.length + 1) true) [(id, .row 1 true ((stepM is s b).map bT))] := by
  have h0 : Meets Try.prog E0 n_needle_states_step [boolsV s, itemsV is, U8 b] [] (.own 0 1 0 (is.length + 1) true) [(0, .row 1 true ((stepM is s b).map bT))] := by
    unfold stepM
    refine m_needle_states_step (by simp) (shut_of (by simp [idsL, AV.ids, keysOf, setL, pst]) (by simp [Ob.live, Ob.ids, keysOf, idsL, AV.ids, setL, pst])) (shut_of (by simp [idsL, AV.ids, keysOf, setL, pst]) (by simp [Ob.live, Ob.ids, keysOf, idsL, AV.ids, setL, pst])) (by simp [keysOf]) (by simp [keysOf]) ?_
    have b1 : ((1 : Nat) : Int) * ((is.length + 1 : Nat) : Int) ≤ 2 ^ 48 := by omega
    have b2 : ((is.length + 1 : Nat) : Int) < 2 ^ 47 := by omega
    simp only [go_sem, s_needle_states_step, hs, b1, b2, ↓reduceIte, Nat.reduceEqDiff, Nat.reduceAdd, Nat.reduceLeDiff, reduceCtorEq, Int.natCast_nonneg, List.getElem?_map, Int.toNat_natCast, List.length_map, List.replicate_zero, Bool.bne_false, Bool.bne_true, Nat.reduceLT, Int.reduceLT, Int.reduceLE, Int.reduceEq, Int.reduceToNat, List.length_replicate, List.isEmpty_cons, List.isEmpty_nil, Nat.le_refl, Int.le_refl, Int.sub_zero, Int.sub_self, ne_eq, List.length_append, Int.toNat_zero, Nat.zero_mul, Nat.mul_one, Nat.one_mul, Nat.reduceMul]
    refine W_loop (fun k : Nat => is.length - k) (fun k => k ≤ is.length)
      (fun k => [(0, boolsV s), (1, itemsV is), (2, U8 b), (7, .own 103 1 0 (is.length + 1) true), (13, itemsV is), (14, I is.length), (15, I k)])
      (fun k => [(103, .row 1 true ((stepN is s b k).map bT))])
      0 (by omega) ?_ ?_
    · have e0 : (stepN is s b 0).map bT = List.replicate (is.length + 1) [T.v (.bool false)] := by simp [stepN]
      rw [e0]
      exact (subL [] [] (by simp [envS, go_sem, wkV, wkL, AV.ids, idsL, keysOf, ren, stoOf, slTrees, AV.asOwn, rowPart, AV.isNil, setL, pst] <;> assumption) (by simp [stoS, go_sem, wkV, wkL, wkO, AV.ids, Ob.ids, idsL, keysOf, ren, AV.one, stoOf, slTrees, AV.asOwn, rowPart, AV.isNil, setL, pst] <;> assumption) (by simp [keysOf, ren]) (by simp [stoOf, keysOf, ren]) (by simp [keysOf, ren]) (by simp [keysOf, ren]))
    · intro k hk
      simp only [go_sem, ↓reduceIte, Nat.reduceEqDiff, Nat.reduceAdd, Nat.reduceLeDiff, reduceCtorEq, Int.natCast_nonneg, List.getElem?_map, Int.toNat_natCast, List.length_map, List.replicate_zero, Bool.bne_false, Bool.bne_true, Nat.reduceLT, Int.reduceLT, Int.reduceLE, Int.reduceEq, Int.reduceToNat, List.length_replicate, List.isEmpty_cons, List.isEmpty_nil, Nat.le_refl, Int.le_refl, Int.sub_zero, Int.sub_self, ne_eq, List.length_append, Int.toNat_zero, Nat.zero_mul, Nat.mul_one, Nat.one_mul, Nat.reduceMul]
      refine W_split rfl (fun h1 => ?_) (fun h1 => ?_)
      · simp at h1
        obtain ⟨x, hx⟩ := get_of_lt h1
        obtain ⟨q1, q2⟩ := item_get hx
        have hg := getD_map s k (by omega)
        have ei : IntKind.i64.wrap ((k : Int) + 1) = ((k + 1 : Nat) : Int) := by rw [wrap_i64_of (by omega) (by omega)]; omega
        have hl := stepN_len is s b k
        cases hsk : s.getD k false
        · have hst : stepN is s b (k + 1) = stepN is s b k := by simp only [stepN, hsk, Bool.false_and, Bool.false_eq_true, if_false]
          simp only [go_sem, hx, itemT, hg, hsk, ei, ↓reduceIte, Nat.reduceEqDiff, Nat.reduceAdd, Nat.reduceLeDiff, reduceCtorEq, Int.natCast_nonneg, List.getElem?_map, Int.toNat_natCast, List.length_map, List.replicate_zero, Bool.bne_false, Bool.bne_true, Nat.reduceLT, Int.reduceLT, Int.reduceLE, Int.reduceEq, Int.reduceToNat, List.length_replicate, List.isEmpty_cons, List.isEmpty_nil, Nat.le_refl, Int.le_refl, Int.sub_zero, Int.sub_self, ne_eq, List.length_append, Int.toNat_zero, Nat.zero_mul, Nat.mul_one, Nat.one_mul, Nat.reduceMul]
          refine rd_of (k + 1) (by first | omega | (simp only; omega)) (by first | omega | (simp only; omega)) ?_
          rw [hst]
          exact (subL [] [] (by simp [envS, go_sem, wkV, wkL, AV.ids, idsL, keysOf, ren, stoOf, slTrees, AV.asOwn, rowPart, AV.isNil, setL, pst] <;> assumption) (by simp [stoS, go_sem, wkV, wkL, wkO, AV.ids, Ob.ids, idsL, keysOf, ren, AV.one, stoOf, slTrees, AV.asOwn, rowPart, AV.isNil, setL, pst] <;> assumption) (by simp [keysOf, ren]) (by simp [stoOf, keysOf, ren]) (by simp [keysOf, ren]) (by simp [keysOf, ren]))
        · simp only [go_sem, hx, itemT, hg, hsk, ↓reduceIte, Nat.reduceEqDiff, Nat.reduceAdd, Nat.reduceLeDiff, reduceCtorEq, Int.natCast_nonneg, List.getElem?_map, Int.toNat_natCast, List.length_map, List.replicate_zero, Bool.bne_false, Bool.bne_true, Nat.reduceLT, Int.reduceLT, Int.reduceLE, Int.reduceEq, Int.reduceToNat, List.length_replicate, List.isEmpty_cons, List.isEmpty_nil, Nat.le_refl, Int.le_refl, Int.sub_zero, Int.sub_self, ne_eq, List.length_append, Int.toNat_zero, Nat.zero_mul, Nat.mul_one, Nat.one_mul, Nat.reduceMul]
          refine Cl_plain (f_needle_Fits x.1 b x.2 hb) ?_
          cases hf : x.1.testBit b
          · have hst : stepN is s b (k + 1) = stepN is s b k := by simp only [stepN, q2, hf, Bool.and_false, Bool.false_eq_true, if_false]
            simp only [go_sem, hf, ei, ↓reduceIte, Nat.reduceEqDiff, Nat.reduceAdd, Nat.reduceLeDiff, reduceCtorEq, Int.natCast_nonneg, List.getElem?_map, Int.toNat_natCast, List.length_map, List.replicate_zero, Bool.bne_false, Bool.bne_true, Nat.reduceLT, Int.reduceLT, Int.reduceLE, Int.reduceEq, Int.reduceToNat, List.length_replicate, List.isEmpty_cons, List.isEmpty_nil, Nat.le_refl, Int.le_refl, Int.sub_zero, Int.sub_self, ne_eq, List.length_append, Int.toNat_zero, Nat.zero_mul, Nat.mul_one, Nat.one_mul, Nat.reduceMul]
            refine rd_of (k + 1) (by first | omega | (simp only; omega)) (by first | omega | (simp only; omega)) ?_
            rw [hst]
            exact (subL [] [] (by simp [envS, go_sem, wkV, wkL, AV.ids, idsL, keysOf, ren, stoOf, slTrees, AV.asOwn, rowPart, AV.isNil, setL, pst] <;> assumption) (by simp [stoS, go_sem, wkV, wkL, wkO, AV.ids, Ob.ids, idsL, keysOf, ren, AV.one, stoOf, slTrees, AV.asOwn, rowPart, AV.isNil, setL, pst] <;> assumption) (by simp [keysOf, ren]) (by simp [stoOf, keysOf, ren]) (by simp [keysOf, ren]) (by simp [keysOf, ren]))
          · have hst : stepN is s b (k + 1) = reachM is (is.length + 1) (if x.2 then k else k + 1) (stepN is s b k) := by simp only [stepN, q2, hf, hsk, q1]; rfl
            cases hx2 : x.2
            · simp only [hx2, Bool.false_eq_true, if_false] at hst
              simp only [go_sem, hf, hx2, ei, ↓reduceIte, Nat.reduceEqDiff, Nat.reduceAdd, Nat.reduceLeDiff, reduceCtorEq, Int.natCast_nonneg, List.getElem?_map, Int.toNat_natCast, List.length_map, List.replicate_zero, Bool.bne_false, Bool.bne_true, Nat.reduceLT, Int.reduceLT, Int.reduceLE, Int.reduceEq, Int.reduceToNat, List.length_replicate, List.isEmpty_cons, List.isEmpty_nil, Nat.le_refl, Int.le_refl, Int.sub_zero, Int.sub_self, ne_eq, List.length_append, Int.toNat_zero, Nat.zero_mul, Nat.mul_one, Nat.one_mul, Nat.reduceMul]
              refine Cl_obj (ins := _) (hin := by simp [keysOf, stoOf]) (hk := by simp [keysOf]) (nd := by simp [keysOf]) (h := f_states_reach 103 is hn (stepN is s b k) (k + 1) hl (by omega)) ?_
              simp only [go_sem, ei, ↓reduceIte, Nat.reduceEqDiff, Nat.reduceAdd, Nat.reduceLeDiff, reduceCtorEq, Int.natCast_nonneg, List.getElem?_map, Int.toNat_natCast, List.length_map, List.replicate_zero, Bool.bne_false, Bool.bne_true, Nat.reduceLT, Int.reduceLT, Int.reduceLE, Int.reduceEq, Int.reduceToNat, List.length_replicate, List.isEmpty_cons, List.isEmpty_nil, Nat.le_refl, Int.le_refl, Int.sub_zero, Int.sub_self, ne_eq, List.length_append, Int.toNat_zero, Nat.zero_mul, Nat.mul_one, Nat.one_mul, Nat.reduceMul]
              refine rd_of (k + 1) (by first | omega | (simp only; omega)) (by first | omega | (simp only; omega)) ?_
              rw [hst]
              exact (subL [] [] (by simp [envS, go_sem, wkV, wkL, AV.ids, idsL, keysOf, ren, stoOf, slTrees, AV.asOwn, rowPart, AV.isNil, setL, pst] <;> assumption) (by simp [stoS, go_sem, wkV, wkL, wkO, AV.ids, Ob.ids, idsL, keysOf, ren, AV.one, stoOf, slTrees, AV.asOwn, rowPart, AV.isNil, setL, pst] <;> assumption) (by simp [keysOf, ren]) (by simp [stoOf, keysOf, ren]) (by simp [keysOf, ren]) (by simp [keysOf, ren]))
            · simp only [hx2, if_true] at hst
              simp only [go_sem, hf, hx2, ↓reduceIte, Nat.reduceEqDiff, Nat.reduceAdd, Nat.reduceLeDiff, reduceCtorEq, Int.natCast_nonneg, List.getElem?_map, Int.toNat_natCast, List.length_map, List.replicate_zero, Bool.bne_false, Bool.bne_true, Nat.reduceLT, Int.reduceLT, Int.reduceLE, Int.reduceEq, Int.reduceToNat, List.length_replicate, List.isEmpty_cons, List.isEmpty_nil, Nat.le_refl, Int.le_refl, Int.sub_zero, Int.sub_self, ne_eq, List.length_append, Int.toNat_zero, Nat.zero_mul, Nat.mul_one, Nat.one_mul, Nat.reduceMul]
              refine Cl_obj (ins := _) (hin := by simp [keysOf, stoOf]) (hk := by simp [keysOf]) (nd := by simp [keysOf]) (h := f_states_reach 103 is hn (stepN is s b k) k hl (by omega)) ?_
              simp only [go_sem, ei, ↓reduceIte, Nat.reduceEqDiff, Nat.reduceAdd, Nat.reduceLeDiff, reduceCtorEq, Int.natCast_nonneg, List.getElem?_map, Int.toNat_natCast, List.length_map, List.replicate_zero, Bool.bne_false, Bool.bne_true, Nat.reduceLT, Int.reduceLT, Int.reduceLE, Int.reduceEq, Int.reduceToNat, List.length_replicate, List.isEmpty_cons, List.isEmpty_nil, Nat.le_refl, Int.le_refl, Int.sub_zero, Int.sub_self, ne_eq, List.length_append, Int.toNat_zero, Nat.zero_mul, Nat.mul_one, Nat.one_mul, Nat.reduceMul]
              refine rd_of (k + 1) (by first | omega | (simp only; omega)) (by first | omega | (simp only; omega)) ?_
              rw [hst]
              exact (subL [] [] (by simp [envS, go_sem, wkV, wkL, AV.ids, idsL, keysOf, ren, stoOf, slTrees, AV.asOwn, rowPart, AV.isNil, setL, pst] <;> assumption) (by simp [stoS, go_sem, wkV, wkL, wkO, AV.ids, Ob.ids, idsL, keysOf, ren, AV.one, stoOf, slTrees, AV.asOwn, rowPart, AV.isNil, setL, pst] <;> assumption) (by simp [keysOf, ren]) (by simp [stoOf, keysOf, ren]) (by simp [keysOf, ren]) (by simp [keysOf, ren]))
      · simp at h1
        have e : k = is.length := by omega
        subst e
        simp only [go_sem, ↓reduceIte, Nat.reduceEqDiff, Nat.reduceAdd, Nat.reduceLeDiff, reduceCtorEq, Int.natCast_nonneg, List.getElem?_map, Int.toNat_natCast, List.length_map, List.replicate_zero, Bool.bne_false, Bool.bne_true, Nat.reduceLT, Int.reduceLT, Int.reduceLE, Int.reduceEq, Int.reduceToNat, List.length_replicate, List.isEmpty_cons, List.isEmpty_nil, Nat.le_refl, Int.le_refl, Int.sub_zero, Int.sub_self, ne_eq, List.length_append, Int.toNat_zero, Nat.zero_mul, Nat.mul_one, Nat.one_mul, Nat.reduceMul]
        refine wends2 [(0, 103)] [] (by first | exact Or.inl rfl | exact Or.inr rfl) ?_ (by simp [AV.ids, idsL, keysOf]) (by simp [stoS, wkO, ls_cons, ls_nil, stoOf, ren, keysOf, Ob.ids, wkV, wkL, AV.one, idsL, AV.ids, setL, pst] <;> assumption) (by simp [keysOf, ren]) (by simp [stoOf, keysOf, ren]) (by simp [keysOf, ren]) (by simp [keysOf, ren])
        simp only [go_sem, r_needle_states_step, exists_eq_left', Option.some.injEq, ↓reduceIte, Nat.reduceEqDiff, Nat.reduceAdd, Nat.reduceLeDiff, reduceCtorEq, Int.natCast_nonneg, List.getElem?_map, Int.toNat_natCast, List.length_map, List.replicate_zero, Bool.bne_false, Bool.bne_true, Nat.reduceLT, Int.reduceLT, Int.reduceLE, Int.reduceEq, Int.reduceToNat, List.length_replicate, List.isEmpty_cons, List.isEmpty_nil, Nat.le_refl, Int.le_refl, Int.sub_zero, Int.sub_self, ne_eq, List.length_append, Int.toNat_zero, Nat.zero_mul, Nat.mul_one, Nat.one_mul, Nat.reduceMul]
        simp [wkV, wkL, slTrees, AV.asOwn, rowPart, stoOf, AV.isNil, ren]
  have := h0.ren (fun _ => id) (by simp [keysOf])
  exact this

theorem f_states_reach_z (id : Nat) (is : List Item) (hn : is.length ≤ 100000) (s : List Bool) (hs : s.length = is.length + 1) :
    Meets Try.prog E0 n_needle_states_reach [.own id 1 0 (is.length + 1) true, itemsV is, I 0] [(id, .row 1 true (s.map bT))] (.tp []) [(id, .row 1 true ((reachM is (is.length + 1) 0 s).map bT))] :=
  f_states_reach id is hn s 0 hs (Nat.zero_le _)

theorem f_needle_Found (a z : Bool) (is : List Item) (hn : is.length ≤ 100000) (tx : ByteArray) (ht : tx.size < 4611686018427387904) : Meets Try.prog E0 n_needle_Found [needleV a z is, .t (.v (.string tx))] [] (Bo (foundM a z is tx.data.toList)) [] := by
  generalize hout : foundM a z is tx.data.toList = out
  refine m_needle_Found (by simp) (shut0 rfl) (shut0 rfl) (by simp) (by simp [keysOf]) ?_
  have b1 : ((1 : Nat) : Int) * ((is.length + 1 : Nat) : Int) ≤ 2 ^ 48 := by omega
  have b2 : ((is.length + 1 : Nat) : Int) < 2 ^ 47 := by omega
  have ei : IntKind.i64.wrap ((is.length : Int) + 1) = ((is.length + 1 : Nat) : Int) := by rw [wrap_i64_of (by omega) (by omega)]; omega
  have e0 : List.replicate (is.length + 1) [T.v (.bool false)] = (List.replicate (is.length + 1) false).map bT := by simp
  have q1 : (is.length : Int) < ((is.length + 1 : Nat) : Int) := by omega
  simp only [go_sem, s_needle_Found, ei, b1, b2, e0, ↓reduceIte, Nat.reduceEqDiff, Nat.reduceAdd, Nat.reduceLeDiff, reduceCtorEq, Int.natCast_nonneg, List.getElem?_map, Int.toNat_natCast, List.length_map, List.replicate_zero, Bool.bne_false, Bool.bne_true, Nat.reduceLT, Int.reduceLT, Int.reduceLE, Int.reduceEq, Int.reduceToNat, List.length_replicate, List.isEmpty_cons, List.isEmpty_nil, Nat.le_refl, Int.le_refl, Int.sub_zero, Int.sub_self, ne_eq, List.length_append, Int.toNat_zero, Nat.zero_mul, Nat.mul_one, Nat.one_mul, Nat.reduceMul]
  refine Cl_obj (ins := _) (hin := by simp [keysOf, stoOf]) (hk := by simp [keysOf]) (nd := by simp [keysOf]) (h := f_states_reach_z 108 is hn (List.replicate (is.length + 1) false) (by simp)) ?_
  simp only [go_sem, ↓reduceIte, Nat.reduceEqDiff, Nat.reduceAdd, Nat.reduceLeDiff, reduceCtorEq, Int.natCast_nonneg, List.getElem?_map, Int.toNat_natCast, List.length_map, List.replicate_zero, Bool.bne_false, Bool.bne_true, Nat.reduceLT, Int.reduceLT, Int.reduceLE, Int.reduceEq, Int.reduceToNat, List.length_replicate, List.isEmpty_cons, List.isEmpty_nil, Nat.le_refl, Int.le_refl, Int.sub_zero, Int.sub_self, ne_eq, List.length_append, Int.toNat_zero, Nat.zero_mul, Nat.mul_one, Nat.one_mul, Nat.reduceMul]
  refine W_loop (fun x : Nat × List Bool => tx.size - x.1) (fun x => x.1 ≤ tx.size ∧ x.2.length = is.length + 1 ∧ walkM a z is (tx.data.toList.drop x.1) x.2 = out)
    (fun x => [(1, .t (.v (.string tx))), (2, .ptr 100 0), (5, I is.length), (6, .own 999 1 0 (is.length + 1) true), (19, I tx.size), (20, I x.1)])
    (fun x => [(100, .box [Bo a, Bo z, itemsV is]), (999, .row 1 true (x.2.map bT))])
    (0, reachM is (is.length + 1) 0 (List.replicate (is.length + 1) false)) ⟨by simp only; omega, by rw [reachM_len]; simp, by rw [← hout]; rfl⟩ ?_ ?_
  · exact (subL [(999, 108)] [] (by simp [envS, go_sem, wkV, wkL, AV.ids, idsL, keysOf, ren, stoOf, slTrees, AV.asOwn, rowPart, AV.isNil, setL, pst] <;> assumption) (by simp [stoS, go_sem, wkV, wkL, wkO, AV.ids, Ob.ids, idsL, keysOf, ren, AV.one, stoOf, slTrees, AV.asOwn, rowPart, AV.isNil, setL, pst] <;> assumption) (by simp [keysOf, ren]) (by simp [stoOf, keysOf, ren]) (by simp [keysOf, ren]) (by simp [keysOf, ren]))
  · rintro ⟨j, s⟩ ⟨hj, hs, hr⟩
    simp only at hj hs hr
    have hg := getD_map s is.length (by omega)
    simp only [go_sem, ↓reduceIte, Nat.reduceEqDiff, Nat.reduceAdd, Nat.reduceLeDiff, reduceCtorEq, Int.natCast_nonneg, List.getElem?_map, Int.toNat_natCast, List.length_map, List.replicate_zero, Bool.bne_false, Bool.bne_true, Nat.reduceLT, Int.reduceLT, Int.reduceLE, Int.reduceEq, Int.reduceToNat, List.length_replicate, List.isEmpty_cons, List.isEmpty_nil, Nat.le_refl, Int.le_refl, Int.sub_zero, Int.sub_self, ne_eq, List.length_append, Int.toNat_zero, Nat.zero_mul, Nat.mul_one, Nat.one_mul, Nat.reduceMul]
    refine W_split rfl (fun h1 => ?_) (fun h1 => ?_)
    · simp at h1
      obtain ⟨c, hc⟩ := get_of_lt (l := tx.data.toList) (i := j) (by rw [ba_len]; exact h1)
      have hc2 : tx[j]? = some c := by rw [ba_get]; exact hc
      have hcb := u8_lt c
      have ej : IntKind.i64.wrap ((j : Int) + 1) = ((j + 1 : Nat) : Int) := by rw [wrap_i64_of (by omega) (by omega)]; omega
      rw [drop_get hc] at hr
      simp only [walkM] at hr
      have hsl2 := stepM_len is s c.toNat
      cases hsl : s.getD is.length false
      · simp only [hsl, Bool.false_and, Bool.false_eq_true, if_false] at hr
        simp only [go_sem, q1, hg, hsl, hc2, ↓reduceIte, Nat.reduceEqDiff, Nat.reduceAdd, Nat.reduceLeDiff, reduceCtorEq, Int.natCast_nonneg, List.getElem?_map, Int.toNat_natCast, List.length_map, List.replicate_zero, Bool.bne_false, Bool.bne_true, Nat.reduceLT, Int.reduceLT, Int.reduceLE, Int.reduceEq, Int.reduceToNat, List.length_replicate, List.isEmpty_cons, List.isEmpty_nil, Nat.le_refl, Int.le_refl, Int.sub_zero, Int.sub_self, ne_eq, List.length_append, Int.toNat_zero, Nat.zero_mul, Nat.mul_one, Nat.one_mul, Nat.reduceMul]
        refine Cl_io [999] false (f_states_step 136 is hn s hs c.toNat hcb) ?_ (by simp [keysOf]) (by simp [keysOf, stoOf]) (by simp [stoOf, keysOf]) (by simp) (by simp [keysOf]) ?_
        · exact .one (Wk.row (by simp [slTrees, AV.asOwn, rowPart, stoOf, hs, take_map_len' s _ hs]) (by simp)) (.one (Wk.refl _) (.one (Wk.refl _) .nil))
        cases ha : a
        · simp only [ha, Bool.false_eq_true, if_false] at hr
          simp only [go_sem, ↓reduceIte, Nat.reduceEqDiff, Nat.reduceAdd, Nat.reduceLeDiff, reduceCtorEq, Int.natCast_nonneg, List.getElem?_map, Int.toNat_natCast, List.length_map, List.replicate_zero, Bool.bne_false, Bool.bne_true, Nat.reduceLT, Int.reduceLT, Int.reduceLE, Int.reduceEq, Int.reduceToNat, List.length_replicate, List.isEmpty_cons, List.isEmpty_nil, Nat.le_refl, Int.le_refl, Int.sub_zero, Int.sub_self, ne_eq, List.length_append, Int.toNat_zero, Nat.zero_mul, Nat.mul_one, Nat.one_mul, Nat.reduceMul]
          refine Cl_obj (ins := _) (hin := by simp [keysOf, stoOf]) (hk := by simp [keysOf]) (nd := by simp [keysOf]) (h := f_states_reach_z 136 is hn (stepM is s c.toNat) hsl2) ?_
          simp only [go_sem, ej, ↓reduceIte, Nat.reduceEqDiff, Nat.reduceAdd, Nat.reduceLeDiff, reduceCtorEq, Int.natCast_nonneg, List.getElem?_map, Int.toNat_natCast, List.length_map, List.replicate_zero, Bool.bne_false, Bool.bne_true, Nat.reduceLT, Int.reduceLT, Int.reduceLE, Int.reduceEq, Int.reduceToNat, List.length_replicate, List.isEmpty_cons, List.isEmpty_nil, Nat.le_refl, Int.le_refl, Int.sub_zero, Int.sub_self, ne_eq, List.length_append, Int.toNat_zero, Nat.zero_mul, Nat.mul_one, Nat.one_mul, Nat.reduceMul]
          refine rd_of (j + 1, reachM is (is.length + 1) 0 (stepM is s c.toNat)) (by simp; omega) ⟨by simp; omega, by simp only; rw [reachM_len]; exact hsl2, hr⟩ ?_
          exact (subL [(999, 136)] [] (by simp [envS, go_sem, wkV, wkL, AV.ids, idsL, keysOf, ren, stoOf, slTrees, AV.asOwn, rowPart, AV.isNil, setL, pst] <;> assumption) (by simp [stoS, go_sem, wkV, wkL, wkO, AV.ids, Ob.ids, idsL, keysOf, ren, AV.one, stoOf, slTrees, AV.asOwn, rowPart, AV.isNil, setL, pst] <;> assumption) (by simp [keysOf, ren]) (by simp [stoOf, keysOf, ren]) (by simp [keysOf, ren]) (by simp [keysOf, ren]))
        · simp only [ha, if_true] at hr
          simp only [go_sem, ej, ↓reduceIte, Nat.reduceEqDiff, Nat.reduceAdd, Nat.reduceLeDiff, reduceCtorEq, Int.natCast_nonneg, List.getElem?_map, Int.toNat_natCast, List.length_map, List.replicate_zero, Bool.bne_false, Bool.bne_true, Nat.reduceLT, Int.reduceLT, Int.reduceLE, Int.reduceEq, Int.reduceToNat, List.length_replicate, List.isEmpty_cons, List.isEmpty_nil, Nat.le_refl, Int.le_refl, Int.sub_zero, Int.sub_self, ne_eq, List.length_append, Int.toNat_zero, Nat.zero_mul, Nat.mul_one, Nat.one_mul, Nat.reduceMul]
          refine rd_of (j + 1, stepM is s c.toNat) (by simp; omega) ⟨by simp; omega, hsl2, hr⟩ ?_
          exact (subL [(999, 136)] [] (by simp [envS, go_sem, wkV, wkL, AV.ids, idsL, keysOf, ren, stoOf, slTrees, AV.asOwn, rowPart, AV.isNil, setL, pst] <;> assumption) (by simp [stoS, go_sem, wkV, wkL, wkO, AV.ids, Ob.ids, idsL, keysOf, ren, AV.one, stoOf, slTrees, AV.asOwn, rowPart, AV.isNil, setL, pst] <;> assumption) (by simp [keysOf, ren]) (by simp [stoOf, keysOf, ren]) (by simp [keysOf, ren]) (by simp [keysOf, ren]))
      · cases hz : z
        · subst hz
          simp only [hsl, Bool.true_and, Bool.not_false, if_true] at hr
          subst hr
          simp only [go_sem, q1, hg, hsl, ↓reduceIte, Nat.reduceEqDiff, Nat.reduceAdd, Nat.reduceLeDiff, reduceCtorEq, Int.natCast_nonneg, List.getElem?_map, Int.toNat_natCast, List.length_map, List.replicate_zero, Bool.bne_false, Bool.bne_true, Nat.reduceLT, Int.reduceLT, Int.reduceLE, Int.reduceEq, Int.reduceToNat, List.length_replicate, List.isEmpty_cons, List.isEmpty_nil, Nat.le_refl, Int.le_refl, Int.sub_zero, Int.sub_self, ne_eq, List.length_append, Int.toNat_zero, Nat.zero_mul, Nat.mul_one, Nat.one_mul, Nat.reduceMul]
          refine wends (by first | exact Or.inl rfl | exact Or.inr rfl) ?_ (by first | rfl | simp [AV.ids, idsL])
          simp only [go_sem, r_needle_Found, ↓reduceIte, Nat.reduceEqDiff, Nat.reduceAdd, Nat.reduceLeDiff, reduceCtorEq, Int.natCast_nonneg, List.getElem?_map, Int.toNat_natCast, List.length_map, List.replicate_zero, Bool.bne_false, Bool.bne_true, Nat.reduceLT, Int.reduceLT, Int.reduceLE, Int.reduceEq, Int.reduceToNat, List.length_replicate, List.isEmpty_cons, List.isEmpty_nil, Nat.le_refl, Int.le_refl, Int.sub_zero, Int.sub_self, ne_eq, List.length_append, Int.toNat_zero, Nat.zero_mul, Nat.mul_one, Nat.one_mul, Nat.reduceMul]
        · subst hz
          simp only [hsl, Bool.true_and, Bool.not_true, Bool.false_eq_true, if_false] at hr
          simp only [go_sem, q1, hg, hsl, hc2, ↓reduceIte, Nat.reduceEqDiff, Nat.reduceAdd, Nat.reduceLeDiff, reduceCtorEq, Int.natCast_nonneg, List.getElem?_map, Int.toNat_natCast, List.length_map, List.replicate_zero, Bool.bne_false, Bool.bne_true, Nat.reduceLT, Int.reduceLT, Int.reduceLE, Int.reduceEq, Int.reduceToNat, List.length_replicate, List.isEmpty_cons, List.isEmpty_nil, Nat.le_refl, Int.le_refl, Int.sub_zero, Int.sub_self, ne_eq, List.length_append, Int.toNat_zero, Nat.zero_mul, Nat.mul_one, Nat.one_mul, Nat.reduceMul]
          refine Cl_io [999] false (f_states_step 136 is hn s hs c.toNat hcb) ?_ (by simp [keysOf]) (by simp [keysOf, stoOf]) (by simp [stoOf, keysOf]) (by simp) (by simp [keysOf]) ?_
          · exact .one (Wk.row (by simp [slTrees, AV.asOwn, rowPart, stoOf, hs, take_map_len' s _ hs]) (by simp)) (.one (Wk.refl _) (.one (Wk.refl _) .nil))
          cases ha : a
          · simp only [ha, Bool.false_eq_true, if_false] at hr
            simp only [go_sem, ↓reduceIte, Nat.reduceEqDiff, Nat.reduceAdd, Nat.reduceLeDiff, reduceCtorEq, Int.natCast_nonneg, List.getElem?_map, Int.toNat_natCast, List.length_map, List.replicate_zero, Bool.bne_false, Bool.bne_true, Nat.reduceLT, Int.reduceLT, Int.reduceLE, Int.reduceEq, Int.reduceToNat, List.length_replicate, List.isEmpty_cons, List.isEmpty_nil, Nat.le_refl, Int.le_refl, Int.sub_zero, Int.sub_self, ne_eq, List.length_append, Int.toNat_zero, Nat.zero_mul, Nat.mul_one, Nat.one_mul, Nat.reduceMul]
            refine Cl_obj (ins := _) (hin := by simp [keysOf, stoOf]) (hk := by simp [keysOf]) (nd := by simp [keysOf]) (h := f_states_reach_z 136 is hn (stepM is s c.toNat) hsl2) ?_
            simp only [go_sem, ej, ↓reduceIte, Nat.reduceEqDiff, Nat.reduceAdd, Nat.reduceLeDiff, reduceCtorEq, Int.natCast_nonneg, List.getElem?_map, Int.toNat_natCast, List.length_map, List.replicate_zero, Bool.bne_false, Bool.bne_true, Nat.reduceLT, Int.reduceLT, Int.reduceLE, Int.reduceEq, Int.reduceToNat, List.length_replicate, List.isEmpty_cons, List.isEmpty_nil, Nat.le_refl, Int.le_refl, Int.sub_zero, Int.sub_self, ne_eq, List.length_append, Int.toNat_zero, Nat.zero_mul, Nat.mul_one, Nat.one_mul, Nat.reduceMul]
            refine rd_of (j + 1, reachM is (is.length + 1) 0 (stepM is s c.toNat)) (by simp; omega) ⟨by simp; omega, by simp only; rw [reachM_len]; exact hsl2, hr⟩ ?_
            exact (subL [(999, 136)] [] (by simp [envS, go_sem, wkV, wkL, AV.ids, idsL, keysOf, ren, stoOf, slTrees, AV.asOwn, rowPart, AV.isNil, setL, pst] <;> assumption) (by simp [stoS, go_sem, wkV, wkL, wkO, AV.ids, Ob.ids, idsL, keysOf, ren, AV.one, stoOf, slTrees, AV.asOwn, rowPart, AV.isNil, setL, pst] <;> assumption) (by simp [keysOf, ren]) (by simp [stoOf, keysOf, ren]) (by simp [keysOf, ren]) (by simp [keysOf, ren]))
          · simp only [ha, if_true] at hr
            simp only [go_sem, ej, ↓reduceIte, Nat.reduceEqDiff, Nat.reduceAdd, Nat.reduceLeDiff, reduceCtorEq, Int.natCast_nonneg, List.getElem?_map, Int.toNat_natCast, List.length_map, List.replicate_zero, Bool.bne_false, Bool.bne_true, Nat.reduceLT, Int.reduceLT, Int.reduceLE, Int.reduceEq, Int.reduceToNat, List.length_replicate, List.isEmpty_cons, List.isEmpty_nil, Nat.le_refl, Int.le_refl, Int.sub_zero, Int.sub_self, ne_eq, List.length_append, Int.toNat_zero, Nat.zero_mul, Nat.mul_one, Nat.one_mul, Nat.reduceMul]
            refine rd_of (j + 1, stepM is s c.toNat) (by simp; omega) ⟨by simp; omega, hsl2, hr⟩ ?_
            exact (subL [(999, 136)] [] (by simp [envS, go_sem, wkV, wkL, AV.ids, idsL, keysOf, ren, stoOf, slTrees, AV.asOwn, rowPart, AV.isNil, setL, pst] <;> assumption) (by simp [stoS, go_sem, wkV, wkL, wkO, AV.ids, Ob.ids, idsL, keysOf, ren, AV.one, stoOf, slTrees, AV.asOwn, rowPart, AV.isNil, setL, pst] <;> assumption) (by simp [keysOf, ren]) (by simp [stoOf, keysOf, ren]) (by simp [keysOf, ren]) (by simp [keysOf, ren]))
    · simp at h1
      have e : j = tx.size := by omega
      subst e
      rw [List.drop_eq_nil_of_le (by rw [ba_len]; exact Nat.le_refl _)] at hr
      simp only [walkM] at hr
      simp only [go_sem, q1, hg, hr, ↓reduceIte, Nat.reduceEqDiff, Nat.reduceAdd, Nat.reduceLeDiff, reduceCtorEq, Int.natCast_nonneg, List.getElem?_map, Int.toNat_natCast, List.length_map, List.replicate_zero, Bool.bne_false, Bool.bne_true, Nat.reduceLT, Int.reduceLT, Int.reduceLE, Int.reduceEq, Int.reduceToNat, List.length_replicate, List.isEmpty_cons, List.isEmpty_nil, Nat.le_refl, Int.le_refl, Int.sub_zero, Int.sub_self, ne_eq, List.length_append, Int.toNat_zero, Nat.zero_mul, Nat.mul_one, Nat.one_mul, Nat.reduceMul]
      refine wends (by first | exact Or.inl rfl | exact Or.inr rfl) ?_ (by first | rfl | simp [AV.ids, idsL])
      simp only [go_sem, r_needle_Found, ↓reduceIte, Nat.reduceEqDiff, Nat.reduceAdd, Nat.reduceLeDiff, reduceCtorEq, Int.natCast_nonneg, List.getElem?_map, Int.toNat_natCast, List.length_map, List.replicate_zero, Bool.bne_false, Bool.bne_true, Nat.reduceLT, Int.reduceLT, Int.reduceLE, Int.reduceEq, Int.reduceToNat, List.length_replicate, List.isEmpty_cons, List.isEmpty_nil, Nat.le_refl, Int.le_refl, Int.sub_zero, Int.sub_self, ne_eq, List.length_append, Int.toNat_zero, Nat.zero_mul, Nat.mul_one, Nat.one_mul, Nat.reduceMul]

end Go.Proofs.Ytgnokggmbkhnbaa
