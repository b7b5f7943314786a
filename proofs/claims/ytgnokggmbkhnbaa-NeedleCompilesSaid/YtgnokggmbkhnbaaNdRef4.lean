/- Contract of the plain compiler of patterns. No statement of the seat is proved here. -/
import Derived.Test.YtgnokggmbkhnbaaNdRef3
set_option linter.unusedSimpArgs false
set_option linter.unusedVariables false
namespace Go.Proofs.Ytgnokggmbkhnbaa
open Go Go.Sx

theorem dec_f {a b : Nat} (h : ¬ a = b) : decide (a = b) = false := by simpa using h

theorem dec_t {a b : Nat} (h : a = b) : decide (a = b) = true := by simpa using h

theorem full_words : ∃ n : Nat, n = full ∧ n % 18446744073709551616 = 18446744073709551615 ∧ n / 18446744073709551616 % 18446744073709551616 = 18446744073709551615 ∧ n / 340282366920938463463374607431768211456 % 18446744073709551616 = 18446744073709551615 ∧ n / (18446744073709551616 * 340282366920938463463374607431768211456) % 18446744073709551616 = 18446744073709551615 :=
  ⟨full, rfl, by decide, by decide, by decide, by decide⟩

set_option maxRecDepth 20000 in
set_option maxHeartbeats 8000000 in
theorem f_ref09_Compile (s : ByteArray) (hs : s.size < 4611686018427387904) : Meets Try.prog E0 n_ref09_Compile [.t (.v (.string s))] [] (.tp [needleV (compM s.data.toList).1.1 (compM s.data.toList).1.2.1 (compM s.data.toList).1.2.2, I (compM s.data.toList).2]) [] := by
  refine m_ref09_Compile (by simp) (shut0 rfl) (shut0 rfl) (by simp) (by simp [keysOf]) ?_
  simp only [go_sem, s_ref09_Compile, ↓reduceIte, Nat.reduceEqDiff, Nat.reduceAdd, Nat.reduceLeDiff, reduceCtorEq, Int.natCast_nonneg, List.getElem?_map, Int.toNat_natCast, List.length_map, List.replicate_zero, Bool.bne_false, Bool.bne_true, Nat.reduceLT, Int.reduceLT, Int.reduceLE, Int.reduceEq, Int.reduceToNat, List.length_replicate, List.isEmpty_cons, List.isEmpty_nil, Nat.le_refl, Int.le_refl, Int.sub_zero, Int.sub_self, ne_eq, List.length_append, Int.toNat_zero, Nat.zero_mul, Nat.mul_one, Nat.one_mul, Nat.reduceMul]
  refine W_split rfl (fun h1 => ?_) (fun h1 => ?_)
  · simp at h1
    have hc : compM s.data.toList = ((false, false, []), 12) := by unfold compM; rw [if_pos (by rw [ba_len]; omega)]
    rw [hc]
    simp only [go_sem, ↓reduceIte, Nat.reduceEqDiff, Nat.reduceAdd, Nat.reduceLeDiff, reduceCtorEq, Int.natCast_nonneg, List.getElem?_map, Int.toNat_natCast, List.length_map, List.replicate_zero, Bool.bne_false, Bool.bne_true, Nat.reduceLT, Int.reduceLT, Int.reduceLE, Int.reduceEq, Int.reduceToNat, List.length_replicate, List.isEmpty_cons, List.isEmpty_nil, Nat.le_refl, Int.le_refl, Int.sub_zero, Int.sub_self, ne_eq, List.length_append, Int.toNat_zero, Nat.zero_mul, Nat.mul_one, Nat.one_mul, Nat.reduceMul]
    refine wends2 [] [] (by first | exact Or.inl rfl | exact Or.inr rfl) ?_ (by simp [AV.ids, idsL]) (by simp [stoS]) (by simp [keysOf]) (by simp [stoOf, keysOf] <;> assumption) (by simp [keysOf]) (by simp [keysOf])
    simp only [go_sem, r_ref09_Compile, exists_eq_left', Option.some.injEq, ↓reduceIte, Nat.reduceEqDiff, Nat.reduceAdd, Nat.reduceLeDiff, reduceCtorEq, Int.natCast_nonneg, List.getElem?_map, Int.toNat_natCast, List.length_map, List.replicate_zero, Bool.bne_false, Bool.bne_true, Nat.reduceLT, Int.reduceLT, Int.reduceLE, Int.reduceEq, Int.reduceToNat, List.length_replicate, List.isEmpty_cons, List.isEmpty_nil, Nat.le_refl, Int.le_refl, Int.sub_zero, Int.sub_self, ne_eq, List.length_append, Int.toNat_zero, Nat.zero_mul, Nat.mul_one, Nat.one_mul, Nat.reduceMul]
    simp [wkV, wkL, slTrees, AV.asOwn, rowPart, stoOf, AV.isNil]
  · simp at h1
    have hall := Suf.all s
    have hc : compM s.data.toList = (match itemsM (s.size + 1) (skipM 94 s.data.toList).2 [] with
      | none => ((false, false, []), 10)
      | some (e, is) => (((skipM 94 s.data.toList).1, e, is), 0)) := by unfold compM; rw [ba_len, if_neg (by omega)]; rfl
    have hsuf : Suf s (skipM 94 s.data.toList).2 := (skip_suf 94 _).trans hall
    rw [hc]
    have hcs : (s.data.toList = [] ∧ skipM 94 s.data.toList = (false, [])) ∨ (∃ c r, s.data.toList = c :: r ∧ decide (c.toNat = 94) = false ∧ skipM 94 s.data.toList = (false, c :: r)) ∨ (∃ c r, s.data.toList = c :: r ∧ decide (c.toNat = 94) = true ∧ skipM 94 s.data.toList = (true, r)) := by
      cases s.data.toList with
      | nil => exact Or.inl ⟨rfl, rfl⟩
      | cons c r =>
        right
        by_cases e : c.toNat = 94
        · exact Or.inr ⟨c, r, rfl, by simp [e], by simp [skipM, e]⟩
        · exact Or.inl ⟨c, r, rfl, by simp [e], by simp [skipM, e]⟩
    have hlen0 := ba_len s
    have hg0 := ba_get s 0
    generalize hsk : skipM 94 s.data.toList = sk at *
    generalize hout : itemsM (s.size + 1) sk.2 [] = out
    rcases hcs with ⟨hl0, hk⟩ | ⟨c, r, hl0, hc94, hk⟩ | ⟨c, r, hl0, hc94, hk⟩
    case' inl =>
      rw [hl0] at hlen0
      simp only [List.length_nil] at hlen0
      have d0 : decide ((0 : Int) < (s.size : Int)) = false := decide_eq_false (by omega)
      have hst : (0 : Int) = ((s.size : Nat) : Int) := by omega
      simp only [go_sem, d0, ↓reduceIte, Nat.reduceEqDiff, Nat.reduceAdd, Nat.reduceLeDiff, reduceCtorEq, Int.natCast_nonneg, List.getElem?_map, Int.toNat_natCast, List.length_map, List.replicate_zero, Bool.bne_false, Bool.bne_true, Nat.reduceLT, Int.reduceLT, Int.reduceLE, Int.reduceEq, Int.reduceToNat, List.length_replicate, List.isEmpty_cons, List.isEmpty_nil, Nat.le_refl, Int.le_refl, Int.sub_zero, Int.sub_self, ne_eq, List.length_append, Int.toNat_zero, Nat.zero_mul, Nat.mul_one, Nat.one_mul, Nat.reduceMul]
    case' inr.inl =>
      rw [hl0] at hlen0 hg0
      simp only [List.length_cons] at hlen0
      simp only [List.getElem?_cons_zero] at hg0
      have d0 : decide ((0 : Int) < (s.size : Int)) = true := decide_eq_true (by omega)
      have hst : (0 : Int) = ((s.size - (r.length + 1) : Nat) : Int) := by omega
      simp only [go_sem, d0, hg0, hc94, ↓reduceIte, Nat.reduceEqDiff, Nat.reduceAdd, Nat.reduceLeDiff, reduceCtorEq, Int.natCast_nonneg, List.getElem?_map, Int.toNat_natCast, List.length_map, List.replicate_zero, Bool.bne_false, Bool.bne_true, Nat.reduceLT, Int.reduceLT, Int.reduceLE, Int.reduceEq, Int.reduceToNat, List.length_replicate, List.isEmpty_cons, List.isEmpty_nil, Nat.le_refl, Int.le_refl, Int.sub_zero, Int.sub_self, ne_eq, List.length_append, Int.toNat_zero, Nat.zero_mul, Nat.mul_one, Nat.one_mul, Nat.reduceMul]
    case' inr.inr =>
      rw [hl0] at hlen0 hg0
      simp only [List.length_cons] at hlen0
      simp only [List.getElem?_cons_zero] at hg0
      have d0 : decide ((0 : Int) < (s.size : Int)) = true := decide_eq_true (by omega)
      have hst : (1 : Int) = ((s.size - r.length : Nat) : Int) := by omega
      simp only [go_sem, d0, hg0, hc94, ↓reduceIte, Nat.reduceEqDiff, Nat.reduceAdd, Nat.reduceLeDiff, reduceCtorEq, Int.natCast_nonneg, List.getElem?_map, Int.toNat_natCast, List.length_map, List.replicate_zero, Bool.bne_false, Bool.bne_true, Nat.reduceLT, Int.reduceLT, Int.reduceLE, Int.reduceEq, Int.reduceToNat, List.length_replicate, List.isEmpty_cons, List.isEmpty_nil, Nat.le_refl, Int.le_refl, Int.sub_zero, Int.sub_self, ne_eq, List.length_append, Int.toNat_zero, Nat.zero_mul, Nat.mul_one, Nat.one_mul, Nat.reduceMul]
    all_goals
      have h5 : ((s.size - sk.2.length : Nat) : Int) = ((s.size - sk.2.length : Nat) : Int) := rfl
      refine W_loop (fun i : List UInt8 × List Item => i.1.length) (fun i => Suf s i.1 ∧ i.2.length + i.1.length ≤ 64 ∧ ∃ f, i.1.length < f ∧ itemsM f i.1 i.2 = out)
        (fun i => [(0, .t (.v (.string s))), (2, .ptr 100 0), (4, .ptr 102 0), (5, I ((s.size - i.1.length : Nat) : Int))])
        (fun i => [(100, .box [Bo false, Bo false, .t (.v (.slice none 0 0))]), (102, .box [Bo sk.1, Bo false, .own 999 5 0 i.2.length (!i.2.isEmpty)]), (999, .row 5 (!i.2.isEmpty) (i.2.map itemT))])
        (sk.2, []) ⟨hsuf, by have := hsuf.len; simp; omega, s.size + 1, by have := hsuf.len; simp; omega, hout⟩ ?_ ?_
      · subst hk
        dsimp only at *
        exact (subL [(999, 888)] [] (by simp [envS, go_sem, wkV, wkL, AV.ids, idsL, keysOf, ren, stoOf, slTrees, AV.asOwn, rowPart, AV.isNil, setL, pst] <;> assumption) (by simp [stoS, go_sem, wkV, wkL, wkO, AV.ids, Ob.ids, idsL, keysOf, ren, AV.one, stoOf, slTrees, AV.asOwn, rowPart, AV.isNil, setL, pst] <;> assumption) (by simp [keysOf, ren]) (by simp [stoOf, keysOf, ren]) (by simp [keysOf, ren]) (by simp [keysOf, ren]))
      · clear hk hl0 hlen0 hg0 hst
        rintro ⟨l, acc⟩ ⟨hl, hk, f, hf, hr⟩
        simp only at hl hk hf hr
        have hlen := hl.len
        obtain ⟨f, rfl⟩ : ∃ g, f = g + 1 := ⟨f - 1, by omega⟩
        cases l with
        | nil =>
          simp only [itemsM] at hr
          subst hr
          have d0 : decide (s.size < s.size) = false := by simp
          simp only [go_sem, s_ref09_Compile_b0, d0, List.length_nil, Nat.sub_zero, s_ref09_Compile_t1, ↓reduceIte, Nat.reduceEqDiff, Nat.reduceAdd, Nat.reduceLeDiff, reduceCtorEq, Int.natCast_nonneg, List.getElem?_map, Int.toNat_natCast, List.length_map, List.replicate_zero, Bool.bne_false, Bool.bne_true, Nat.reduceLT, Int.reduceLT, Int.reduceLE, Int.reduceEq, Int.reduceToNat, List.length_replicate, List.isEmpty_cons, List.isEmpty_nil, Nat.le_refl, Int.le_refl, Int.sub_zero, Int.sub_self, ne_eq, List.length_append, Int.toNat_zero, Nat.zero_mul, Nat.mul_one, Nat.one_mul, Nat.reduceMul]
          cases hacc : acc with
          | nil =>
            refine wends2 [] [] (by first | exact Or.inl rfl | exact Or.inr rfl) ?_ (by simp [AV.ids, idsL]) (by simp [stoS]) (by simp [keysOf]) (by simp [stoOf, keysOf] <;> assumption) (by simp [keysOf]) (by simp [keysOf])
            simp only [go_sem, r_ref09_Compile, exists_eq_left', Option.some.injEq, ↓reduceIte, Nat.reduceEqDiff, Nat.reduceAdd, Nat.reduceLeDiff, reduceCtorEq, Int.natCast_nonneg, List.getElem?_map, Int.toNat_natCast, List.length_map, List.replicate_zero, Bool.bne_false, Bool.bne_true, Nat.reduceLT, Int.reduceLT, Int.reduceLE, Int.reduceEq, Int.reduceToNat, List.length_replicate, List.isEmpty_cons, List.isEmpty_nil, Nat.le_refl, Int.le_refl, Int.sub_zero, Int.sub_self, ne_eq, List.length_append, Int.toNat_zero, Nat.zero_mul, Nat.mul_one, Nat.one_mul, Nat.reduceMul]
            simp [wkV, wkL, slTrees, AV.asOwn, rowPart, stoOf, AV.isNil]
          | cons a acc =>
            refine wends2 [] [999] (by first | exact Or.inl rfl | exact Or.inr rfl) ?_ (by simp [AV.ids, idsL]) (by simp [stoS]) (by simp [keysOf]) (by simp [stoOf, keysOf] <;> assumption) (by simp [keysOf]) (by simp [keysOf])
            simp only [go_sem, r_ref09_Compile, exists_eq_left', Option.some.injEq, ↓reduceIte, Nat.reduceEqDiff, Nat.reduceAdd, Nat.reduceLeDiff, reduceCtorEq, Int.natCast_nonneg, List.getElem?_map, Int.toNat_natCast, List.length_map, List.replicate_zero, Bool.bne_false, Bool.bne_true, Nat.reduceLT, Int.reduceLT, Int.reduceLE, Int.reduceEq, Int.reduceToNat, List.length_replicate, List.isEmpty_cons, List.isEmpty_nil, Nat.le_refl, Int.le_refl, Int.sub_zero, Int.sub_self, ne_eq, List.length_append, Int.toNat_zero, Nat.zero_mul, Nat.mul_one, Nat.one_mul, Nat.reduceMul]
            simp [wkV, wkL, slTrees, AV.asOwn, rowPart, stoOf, AV.isNil, List.take_of_length_le]
        | cons c r =>
          have g0 := hl.get 0
          simp only [List.length_cons, Nat.add_zero, List.getElem?_cons_zero] at hlen hk hf g0
          have hcb := u8_lt c
          have d0 : decide (s.size - (r.length + 1) < s.size) = true := by simp; omega
          have w1 : IntKind.i64.wrap ((s.size : Int) - 1) = ((s.size - 1 : Nat) : Int) := by rw [wrap_i64_of (by omega) (by omega)]; omega
          by_cases hd : r = [] ∧ c.toNat = 36
          · obtain ⟨rfl, hc36⟩ := hd
            simp only [itemsM, hc36, and_self, if_true] at hr
            subst hr
            simp only [List.length_nil, Nat.zero_add] at d0 g0 hlen
            have k36 := dec_t hc36
            simp only [go_sem, s_ref09_Compile_b0, d0, List.length_cons, List.length_nil, Nat.zero_add, g0, k36, w1, decide_true, ↓reduceIte, Nat.reduceEqDiff, Nat.reduceAdd, Nat.reduceLeDiff, reduceCtorEq, Int.natCast_nonneg, List.getElem?_map, Int.toNat_natCast, List.length_map, List.replicate_zero, Bool.bne_false, Bool.bne_true, Nat.reduceLT, Int.reduceLT, Int.reduceLE, Int.reduceEq, Int.reduceToNat, List.length_replicate, List.isEmpty_cons, List.isEmpty_nil, Nat.le_refl, Int.le_refl, Int.sub_zero, Int.sub_self, ne_eq, List.length_append, Int.toNat_zero, Nat.zero_mul, Nat.mul_one, Nat.one_mul, Nat.reduceMul]
            cases hacc : acc with
            | nil =>
              refine wends2 [] [] (by first | exact Or.inl rfl | exact Or.inr rfl) ?_ (by simp [AV.ids, idsL]) (by simp [stoS]) (by simp [keysOf]) (by simp [stoOf, keysOf] <;> assumption) (by simp [keysOf]) (by simp [keysOf])
              simp only [go_sem, r_ref09_Compile, exists_eq_left', Option.some.injEq, ↓reduceIte, Nat.reduceEqDiff, Nat.reduceAdd, Nat.reduceLeDiff, reduceCtorEq, Int.natCast_nonneg, List.getElem?_map, Int.toNat_natCast, List.length_map, List.replicate_zero, Bool.bne_false, Bool.bne_true, Nat.reduceLT, Int.reduceLT, Int.reduceLE, Int.reduceEq, Int.reduceToNat, List.length_replicate, List.isEmpty_cons, List.isEmpty_nil, Nat.le_refl, Int.le_refl, Int.sub_zero, Int.sub_self, ne_eq, List.length_append, Int.toNat_zero, Nat.zero_mul, Nat.mul_one, Nat.one_mul, Nat.reduceMul]
              simp [wkV, wkL, slTrees, AV.asOwn, rowPart, stoOf, AV.isNil]
            | cons a acc =>
              refine wends2 [] [999] (by first | exact Or.inl rfl | exact Or.inr rfl) ?_ (by simp [AV.ids, idsL]) (by simp [stoS]) (by simp [keysOf]) (by simp [stoOf, keysOf] <;> assumption) (by simp [keysOf]) (by simp [keysOf])
              simp only [go_sem, r_ref09_Compile, exists_eq_left', Option.some.injEq, ↓reduceIte, Nat.reduceEqDiff, Nat.reduceAdd, Nat.reduceLeDiff, reduceCtorEq, Int.natCast_nonneg, List.getElem?_map, Int.toNat_natCast, List.length_map, List.replicate_zero, Bool.bne_false, Bool.bne_true, Nat.reduceLT, Int.reduceLT, Int.reduceLE, Int.reduceEq, Int.reduceToNat, List.length_replicate, List.isEmpty_cons, List.isEmpty_nil, Nat.le_refl, Int.le_refl, Int.sub_zero, Int.sub_self, ne_eq, List.length_append, Int.toNat_zero, Nat.zero_mul, Nat.mul_one, Nat.one_mul, Nat.reduceMul]
              simp [wkV, wkL, slTrees, AV.asOwn, rowPart, stoOf, AV.isNil, List.take_of_length_le]
          · simp only [itemsM, if_neg hd] at hr
            by_cases hc36 : c.toNat = 36
            · have hr0 : r ≠ [] := fun e => hd ⟨e, hc36⟩
              have hrl : r.length ≠ 0 := fun e => hr0 (List.eq_nil_of_length_eq_zero e)
              have dm : decide (s.size - (r.length + 1) = s.size - 1) = false := by simp; omega
              have k36 := dec_t hc36
              simp only [atomM, hc36, true_or, or_true, if_true, Bool.false_eq_true, if_false] at hr
              subst hr
              simp only [go_sem, s_ref09_Compile_b0, d0, List.length_cons, g0, k36, w1, dm, ↓reduceIte, Nat.reduceEqDiff, Nat.reduceAdd, Nat.reduceLeDiff, reduceCtorEq, Int.natCast_nonneg, List.getElem?_map, Int.toNat_natCast, List.length_map, List.replicate_zero, Bool.bne_false, Bool.bne_true, Nat.reduceLT, Int.reduceLT, Int.reduceLE, Int.reduceEq, Int.reduceToNat, List.length_replicate, List.isEmpty_cons, List.isEmpty_nil, Nat.le_refl, Int.le_refl, Int.sub_zero, Int.sub_self, ne_eq, List.length_append, Int.toNat_zero, Nat.zero_mul, Nat.mul_one, Nat.one_mul, Nat.reduceMul]
              refine wends2 [] [] (by first | exact Or.inl rfl | exact Or.inr rfl) ?_ (by simp [AV.ids, idsL]) (by simp [stoS]) (by simp [keysOf]) (by simp [stoOf, keysOf] <;> assumption) (by simp [keysOf]) (by simp [keysOf])
              simp only [go_sem, r_ref09_Compile, exists_eq_left', Option.some.injEq, ↓reduceIte, Nat.reduceEqDiff, Nat.reduceAdd, Nat.reduceLeDiff, reduceCtorEq, Int.natCast_nonneg, List.getElem?_map, Int.toNat_natCast, List.length_map, List.replicate_zero, Bool.bne_false, Bool.bne_true, Nat.reduceLT, Int.reduceLT, Int.reduceLE, Int.reduceEq, Int.reduceToNat, List.length_replicate, List.isEmpty_cons, List.isEmpty_nil, Nat.le_refl, Int.le_refl, Int.sub_zero, Int.sub_self, ne_eq, List.length_append, Int.toNat_zero, Nat.zero_mul, Nat.mul_one, Nat.one_mul, Nat.reduceMul]
              simp [wkV, wkL, slTrees, AV.asOwn, rowPart, stoOf, AV.isNil]
            have k36 := dec_f hc36
            by_cases hc94 : c.toNat = 94
            · have k94 := dec_t hc94
              simp only [atomM, hc94, true_or, or_true, if_true, Bool.false_eq_true, if_false] at hr
              subst hr
              simp only [go_sem, s_ref09_Compile_b0, d0, List.length_cons, g0, k36, k94, ↓reduceIte, Nat.reduceEqDiff, Nat.reduceAdd, Nat.reduceLeDiff, reduceCtorEq, Int.natCast_nonneg, List.getElem?_map, Int.toNat_natCast, List.length_map, List.replicate_zero, Bool.bne_false, Bool.bne_true, Nat.reduceLT, Int.reduceLT, Int.reduceLE, Int.reduceEq, Int.reduceToNat, List.length_replicate, List.isEmpty_cons, List.isEmpty_nil, Nat.le_refl, Int.le_refl, Int.sub_zero, Int.sub_self, ne_eq, List.length_append, Int.toNat_zero, Nat.zero_mul, Nat.mul_one, Nat.one_mul, Nat.reduceMul]
              refine wends2 [] [] (by first | exact Or.inl rfl | exact Or.inr rfl) ?_ (by simp [AV.ids, idsL]) (by simp [stoS]) (by simp [keysOf]) (by simp [stoOf, keysOf] <;> assumption) (by simp [keysOf]) (by simp [keysOf])
              simp only [go_sem, r_ref09_Compile, exists_eq_left', Option.some.injEq, ↓reduceIte, Nat.reduceEqDiff, Nat.reduceAdd, Nat.reduceLeDiff, reduceCtorEq, Int.natCast_nonneg, List.getElem?_map, Int.toNat_natCast, List.length_map, List.replicate_zero, Bool.bne_false, Bool.bne_true, Nat.reduceLT, Int.reduceLT, Int.reduceLE, Int.reduceEq, Int.reduceToNat, List.length_replicate, List.isEmpty_cons, List.isEmpty_nil, Nat.le_refl, Int.le_refl, Int.sub_zero, Int.sub_self, ne_eq, List.length_append, Int.toNat_zero, Nat.zero_mul, Nat.mul_one, Nat.one_mul, Nat.reduceMul]
              simp [wkV, wkL, slTrees, AV.asOwn, rowPart, stoOf, AV.isNil]
            have k94 := dec_f hc94
            by_cases hc42 : c.toNat = 42
            · have k42 := dec_t hc42
              simp only [atomM, hc42, true_or, or_true, if_true, Bool.false_eq_true, if_false] at hr
              subst hr
              simp only [go_sem, s_ref09_Compile_b0, d0, List.length_cons, g0, k36, k94, k42, ↓reduceIte, Nat.reduceEqDiff, Nat.reduceAdd, Nat.reduceLeDiff, reduceCtorEq, Int.natCast_nonneg, List.getElem?_map, Int.toNat_natCast, List.length_map, List.replicate_zero, Bool.bne_false, Bool.bne_true, Nat.reduceLT, Int.reduceLT, Int.reduceLE, Int.reduceEq, Int.reduceToNat, List.length_replicate, List.isEmpty_cons, List.isEmpty_nil, Nat.le_refl, Int.le_refl, Int.sub_zero, Int.sub_self, ne_eq, List.length_append, Int.toNat_zero, Nat.zero_mul, Nat.mul_one, Nat.one_mul, Nat.reduceMul]
              refine wends2 [] [] (by first | exact Or.inl rfl | exact Or.inr rfl) ?_ (by simp [AV.ids, idsL]) (by simp [stoS]) (by simp [keysOf]) (by simp [stoOf, keysOf] <;> assumption) (by simp [keysOf]) (by simp [keysOf])
              simp only [go_sem, r_ref09_Compile, exists_eq_left', Option.some.injEq, ↓reduceIte, Nat.reduceEqDiff, Nat.reduceAdd, Nat.reduceLeDiff, reduceCtorEq, Int.natCast_nonneg, List.getElem?_map, Int.toNat_natCast, List.length_map, List.replicate_zero, Bool.bne_false, Bool.bne_true, Nat.reduceLT, Int.reduceLT, Int.reduceLE, Int.reduceEq, Int.reduceToNat, List.length_replicate, List.isEmpty_cons, List.isEmpty_nil, Nat.le_refl, Int.le_refl, Int.sub_zero, Int.sub_self, ne_eq, List.length_append, Int.toNat_zero, Nat.zero_mul, Nat.mul_one, Nat.one_mul, Nat.reduceMul]
              simp [wkV, wkL, slTrees, AV.asOwn, rowPart, stoOf, AV.isNil]
            have k42 := dec_f hc42
            by_cases hc93 : c.toNat = 93
            · have k93 := dec_t hc93
              simp only [atomM, hc93, true_or, or_true, if_true, Bool.false_eq_true, if_false] at hr
              subst hr
              simp only [go_sem, s_ref09_Compile_b0, d0, List.length_cons, g0, k36, k94, k42, k93, ↓reduceIte, Nat.reduceEqDiff, Nat.reduceAdd, Nat.reduceLeDiff, reduceCtorEq, Int.natCast_nonneg, List.getElem?_map, Int.toNat_natCast, List.length_map, List.replicate_zero, Bool.bne_false, Bool.bne_true, Nat.reduceLT, Int.reduceLT, Int.reduceLE, Int.reduceEq, Int.reduceToNat, List.length_replicate, List.isEmpty_cons, List.isEmpty_nil, Nat.le_refl, Int.le_refl, Int.sub_zero, Int.sub_self, ne_eq, List.length_append, Int.toNat_zero, Nat.zero_mul, Nat.mul_one, Nat.one_mul, Nat.reduceMul]
              refine wends2 [] [] (by first | exact Or.inl rfl | exact Or.inr rfl) ?_ (by simp [AV.ids, idsL]) (by simp [stoS]) (by simp [keysOf]) (by simp [stoOf, keysOf] <;> assumption) (by simp [keysOf]) (by simp [keysOf])
              simp only [go_sem, r_ref09_Compile, exists_eq_left', Option.some.injEq, ↓reduceIte, Nat.reduceEqDiff, Nat.reduceAdd, Nat.reduceLeDiff, reduceCtorEq, Int.natCast_nonneg, List.getElem?_map, Int.toNat_natCast, List.length_map, List.replicate_zero, Bool.bne_false, Bool.bne_true, Nat.reduceLT, Int.reduceLT, Int.reduceLE, Int.reduceEq, Int.reduceToNat, List.length_replicate, List.isEmpty_cons, List.isEmpty_nil, Nat.le_refl, Int.le_refl, Int.sub_zero, Int.sub_self, ne_eq, List.length_append, Int.toNat_zero, Nat.zero_mul, Nat.mul_one, Nat.one_mul, Nat.reduceMul]
              simp [wkV, wkL, slTrees, AV.asOwn, rowPart, stoOf, AV.isNil]
            have k93 := dec_f hc93
            have hb : ¬ (c.toNat = 94 ∨ c.toNat = 36 ∨ c.toNat = 42 ∨ c.toNat = 93) := by omega
            have ea : IntKind.i64.wrap (((s.size - (r.length + 1) : Nat) : Int) + 1) = ((s.size - r.length : Nat) : Int) := by rw [wrap_i64_of (by omega) (by omega)]; omega
            have hacs : (atomM (c :: r) = (full, true, r) ∧ c.toNat = 46) ∨ (∃ d r1, r = d :: r1 ∧ atomM (c :: r) = (2 ^ d.toNat, true, r1) ∧ c.toNat = 92) ∨ (r = [] ∧ (atomM (c :: r)).2.1 = false ∧ c.toNat = 92) ∨ (c.toNat = 91 ∧ atomM (c :: r) = classM r) ∨ (atomM (c :: r) = (2 ^ c.toNat, true, r) ∧ c.toNat ≠ 46 ∧ c.toNat ≠ 92 ∧ c.toNat ≠ 91) := by
              by_cases h46 : c.toNat = 46
              · exact Or.inl ⟨by simp [atomM, h46], h46⟩
              · by_cases h91 : c.toNat = 91
                · exact Or.inr (Or.inr (Or.inr (Or.inl ⟨h91, by simp [atomM, h91]⟩)))
                · by_cases h92 : c.toNat = 92
                  · cases r with
                    | nil => exact Or.inr (Or.inr (Or.inl ⟨rfl, by simp [atomM, h92], h92⟩))
                    | cons d r1 => exact Or.inr (Or.inl ⟨d, r1, rfl, by simp [atomM, h92], h92⟩)
                  · exact Or.inr (Or.inr (Or.inr (Or.inr ⟨by simp only [atomM, if_neg hb, if_neg h46, if_neg h91, if_neg h92], h46, h92, h91⟩)))
            rcases hacs with ⟨hat, h46⟩ | ⟨d, r1, hrd, hat, h92⟩ | ⟨hrd, hat, h92⟩ | ⟨h91, hat⟩ | ⟨hat, h46, h92, h91⟩
            case' inr.inr.inl =>
              subst hrd
              rw [hat] at hr
              simp only [Bool.false_eq_true, if_false] at hr
              subst hr
              simp only [List.length_nil, Nat.zero_add] at d0 g0 hlen
              have k46 : decide (c.toNat = 46) = false := dec_f (by omega)
              have k92 : decide (c.toNat = 92) = true := dec_t h92
              simp only [go_sem, s_ref09_Compile_b0, d0, List.length_cons, List.length_nil, Nat.zero_add, g0, k36, k94, k42, k93, k46, k92, w1, decide_true, ↓reduceIte, Nat.reduceEqDiff, Nat.reduceAdd, Nat.reduceLeDiff, reduceCtorEq, Int.natCast_nonneg, List.getElem?_map, Int.toNat_natCast, List.length_map, List.replicate_zero, Bool.bne_false, Bool.bne_true, Nat.reduceLT, Int.reduceLT, Int.reduceLE, Int.reduceEq, Int.reduceToNat, List.length_replicate, List.isEmpty_cons, List.isEmpty_nil, Nat.le_refl, Int.le_refl, Int.sub_zero, Int.sub_self, ne_eq, List.length_append, Int.toNat_zero, Nat.zero_mul, Nat.mul_one, Nat.one_mul, Nat.reduceMul]
              refine wends2 [] [] (by first | exact Or.inl rfl | exact Or.inr rfl) ?_ (by simp [AV.ids, idsL]) (by simp [stoS]) (by simp [keysOf]) (by simp [stoOf, keysOf] <;> assumption) (by simp [keysOf]) (by simp [keysOf])
              simp only [go_sem, r_ref09_Compile, exists_eq_left', Option.some.injEq, ↓reduceIte, Nat.reduceEqDiff, Nat.reduceAdd, Nat.reduceLeDiff, reduceCtorEq, Int.natCast_nonneg, List.getElem?_map, Int.toNat_natCast, List.length_map, List.replicate_zero, Bool.bne_false, Bool.bne_true, Nat.reduceLT, Int.reduceLT, Int.reduceLE, Int.reduceEq, Int.reduceToNat, List.length_replicate, List.isEmpty_cons, List.isEmpty_nil, Nat.le_refl, Int.le_refl, Int.sub_zero, Int.sub_self, ne_eq, List.length_append, Int.toNat_zero, Nat.zero_mul, Nat.mul_one, Nat.one_mul, Nat.reduceMul]
              simp [wkV, wkL, slTrees, AV.asOwn, rowPart, stoOf, AV.isNil]
            case' inl =>
              have k46 : decide (c.toNat = 46) = true := dec_t h46
              have hs1 : Suf s r := hl.tail
              have hle : r.length ≤ r.length := Nat.le_refl _
              rw [hat] at hr
              simp only [if_true] at hr
              simp only [go_sem, s_ref09_Compile_b0, d0, List.length_cons, g0, k36, k94, k42, k93, k46, ea, ↓reduceIte, Nat.reduceEqDiff, Nat.reduceAdd, Nat.reduceLeDiff, reduceCtorEq, Int.natCast_nonneg, List.getElem?_map, Int.toNat_natCast, List.length_map, List.replicate_zero, Bool.bne_false, Bool.bne_true, Nat.reduceLT, Int.reduceLT, Int.reduceLE, Int.reduceEq, Int.reduceToNat, List.length_replicate, List.isEmpty_cons, List.isEmpty_nil, Nat.le_refl, Int.le_refl, Int.sub_zero, Int.sub_self, ne_eq, List.length_append, Int.toNat_zero, Nat.zero_mul, Nat.mul_one, Nat.one_mul, Nat.reduceMul]
              obtain ⟨n, hn, hw1, hw2, hw3, hw4⟩ := full_words
              have e2 : ∀ st, acc.map itemT ++ [[.v (.int .u64 ((18446744073709551615 : Nat) : Int)), .v (.int .u64 ((18446744073709551615 : Nat) : Int)), .v (.int .u64 ((18446744073709551615 : Nat) : Int)), .v (.int .u64 ((18446744073709551615 : Nat) : Int)), .v (.bool st)]] = (acc ++ [(n, st)]).map itemT := by
                intro st
                simp only [List.map_append, List.map_cons, List.map_nil, itemT, hw1, hw2, hw3, hw4]
              rw [← hn] at hr
              clear hat ea hb hn
              obtain ⟨r1, rfl⟩ : ∃ r1, r1 = r := ⟨r, rfl⟩
              have hk1 : acc.length + r1.length + 1 ≤ 64 := by omega
              have hf1 : r1.length < f := by omega
              have hm1 : r1.length ≤ r1.length := Nat.le_refl _
            case' inr.inl =>
              subst hrd
              have k46 : decide (c.toNat = 46) = false := dec_f (by omega)
              have k92 : decide (c.toNat = 92) = true := dec_t h92
              have hs1 : Suf s r1 := hl.tail.tail
              have g1 := hl.get 1
              have hcb2 := u8_lt d
              simp only [List.length_cons, List.getElem?_cons_succ, List.getElem?_cons_zero] at g0 g1 d0 hlen hk hf ea
              have dm : decide (s.size - (r1.length + 1 + 1) = s.size - 1) = false := by simp; omega
              have ei : IntKind.i64.wrap (((s.size - (r1.length + 1 + 1) : Nat) : Int) + 1) = ((s.size - (r1.length + 1 + 1) + 1 : Nat) : Int) := by rw [wrap_i64_of (by omega) (by omega)]; omega
              have ej : IntKind.i64.wrap (((s.size - (r1.length + 1 + 1) : Nat) : Int) + 2) = ((s.size - r1.length : Nat) : Int) := by rw [wrap_i64_of (by omega) (by omega)]; omega
              rw [hat] at hr
              simp only [if_true] at hr
              simp only [go_sem, s_ref09_Compile_b0, d0, List.length_cons, g0, g1, k36, k94, k42, k93, k46, k92, w1, dm, ei, ej, ↓reduceIte, Nat.reduceEqDiff, Nat.reduceAdd, Nat.reduceLeDiff, reduceCtorEq, Int.natCast_nonneg, List.getElem?_map, Int.toNat_natCast, List.length_map, List.replicate_zero, Bool.bne_false, Bool.bne_true, Nat.reduceLT, Int.reduceLT, Int.reduceLE, Int.reduceEq, Int.reduceToNat, List.length_replicate, List.isEmpty_cons, List.isEmpty_nil, Nat.le_refl, Int.le_refl, Int.sub_zero, Int.sub_self, ne_eq, List.length_append, Int.toNat_zero, Nat.zero_mul, Nat.mul_one, Nat.one_mul, Nat.reduceMul]
              refine Cl_plain (f_ref09_one d.toNat hcb2) ?_
              simp only [go_sem, ej, ↓reduceIte, Nat.reduceEqDiff, Nat.reduceAdd, Nat.reduceLeDiff, reduceCtorEq, Int.natCast_nonneg, List.getElem?_map, Int.toNat_natCast, List.length_map, List.replicate_zero, Bool.bne_false, Bool.bne_true, Nat.reduceLT, Int.reduceLT, Int.reduceLE, Int.reduceEq, Int.reduceToNat, List.length_replicate, List.isEmpty_cons, List.isEmpty_nil, Nat.le_refl, Int.le_refl, Int.sub_zero, Int.sub_self, ne_eq, List.length_append, Int.toNat_zero, Nat.zero_mul, Nat.mul_one, Nat.one_mul, Nat.reduceMul]
              clear hat
              generalize 2 ^ d.toNat = n at *
              have hk1 : acc.length + r1.length + 1 ≤ 64 := by omega
              have hf1 : r1.length < f := by omega
              have hm1 : r1.length ≤ (d :: r1).length := by simp
              have e2 : ∀ st, acc.map itemT ++ [[.v (.int .u64 ((n % 18446744073709551616 : Nat) : Int)), .v (.int .u64 ((n / 18446744073709551616 % 18446744073709551616 : Nat) : Int)), .v (.int .u64 ((n / 340282366920938463463374607431768211456 % 18446744073709551616 : Nat) : Int)), .v (.int .u64 ((n / (18446744073709551616 * 340282366920938463463374607431768211456) % 18446744073709551616 : Nat) : Int)), .v (.bool st)]] = (acc ++ [(n, st)]).map itemT := by intro st; simp [itemT]
            case' inr.inr.inr.inl =>
              have k46 : decide (c.toNat = 46) = false := dec_f (by omega)
              have k92 : decide (c.toNat = 92) = false := dec_f (by omega)
              have k91 : decide (c.toNat = 91) = true := dec_t h91
              simp only [go_sem, s_ref09_Compile_b0, d0, List.length_cons, g0, k36, k94, k42, k93, k46, k92, k91, ea, ↓reduceIte, Nat.reduceEqDiff, Nat.reduceAdd, Nat.reduceLeDiff, reduceCtorEq, Int.natCast_nonneg, List.getElem?_map, Int.toNat_natCast, List.length_map, List.replicate_zero, Bool.bne_false, Bool.bne_true, Nat.reduceLT, Int.reduceLT, Int.reduceLE, Int.reduceEq, Int.reduceToNat, List.length_replicate, List.isEmpty_cons, List.isEmpty_nil, Nat.le_refl, Int.le_refl, Int.sub_zero, Int.sub_self, ne_eq, List.length_append, Int.toNat_zero, Nat.zero_mul, Nat.mul_one, Nat.one_mul, Nat.reduceMul]
              refine Cl_plain (f_ref09_class s r hl.tail hs) ?_
              have hsu := atomM_suf c r
              rw [hat] at hr hsu
              generalize classM r = y at *
              obtain ⟨n, ok, r1⟩ := y
              simp only at hsu
              have hs1 : Suf s r1 := hsu.trans hl.tail
              have hle := hsu.length_le
              cases ok
              · simp only [Bool.false_eq_true, if_false] at hr
                subst hr
                simp only [go_sem, ↓reduceIte, Nat.reduceEqDiff, Nat.reduceAdd, Nat.reduceLeDiff, reduceCtorEq, Int.natCast_nonneg, List.getElem?_map, Int.toNat_natCast, List.length_map, List.replicate_zero, Bool.bne_false, Bool.bne_true, Nat.reduceLT, Int.reduceLT, Int.reduceLE, Int.reduceEq, Int.reduceToNat, List.length_replicate, List.isEmpty_cons, List.isEmpty_nil, Nat.le_refl, Int.le_refl, Int.sub_zero, Int.sub_self, ne_eq, List.length_append, Int.toNat_zero, Nat.zero_mul, Nat.mul_one, Nat.one_mul, Nat.reduceMul]
                refine wends2 [] [] (by first | exact Or.inl rfl | exact Or.inr rfl) ?_ (by simp [AV.ids, idsL]) (by simp [stoS]) (by simp [keysOf]) (by simp [stoOf, keysOf] <;> assumption) (by simp [keysOf]) (by simp [keysOf])
                simp only [go_sem, r_ref09_Compile, exists_eq_left', Option.some.injEq, ↓reduceIte, Nat.reduceEqDiff, Nat.reduceAdd, Nat.reduceLeDiff, reduceCtorEq, Int.natCast_nonneg, List.getElem?_map, Int.toNat_natCast, List.length_map, List.replicate_zero, Bool.bne_false, Bool.bne_true, Nat.reduceLT, Int.reduceLT, Int.reduceLE, Int.reduceEq, Int.reduceToNat, List.length_replicate, List.isEmpty_cons, List.isEmpty_nil, Nat.le_refl, Int.le_refl, Int.sub_zero, Int.sub_self, ne_eq, List.length_append, Int.toNat_zero, Nat.zero_mul, Nat.mul_one, Nat.one_mul, Nat.reduceMul]
                simp [wkV, wkL, slTrees, AV.asOwn, rowPart, stoOf, AV.isNil]
              simp only [if_true] at hr
              simp only [go_sem, ↓reduceIte, Nat.reduceEqDiff, Nat.reduceAdd, Nat.reduceLeDiff, reduceCtorEq, Int.natCast_nonneg, List.getElem?_map, Int.toNat_natCast, List.length_map, List.replicate_zero, Bool.bne_false, Bool.bne_true, Nat.reduceLT, Int.reduceLT, Int.reduceLE, Int.reduceEq, Int.reduceToNat, List.length_replicate, List.isEmpty_cons, List.isEmpty_nil, Nat.le_refl, Int.le_refl, Int.sub_zero, Int.sub_self, ne_eq, List.length_append, Int.toNat_zero, Nat.zero_mul, Nat.mul_one, Nat.one_mul, Nat.reduceMul]
              have e2 : ∀ st, acc.map itemT ++ [[.v (.int .u64 ((n % 18446744073709551616 : Nat) : Int)), .v (.int .u64 ((n / 18446744073709551616 % 18446744073709551616 : Nat) : Int)), .v (.int .u64 ((n / 340282366920938463463374607431768211456 % 18446744073709551616 : Nat) : Int)), .v (.int .u64 ((n / (18446744073709551616 * 340282366920938463463374607431768211456) % 18446744073709551616 : Nat) : Int)), .v (.bool st)]] = (acc ++ [(n, st)]).map itemT := by intro st; simp [itemT]
              have hk1 : acc.length + r1.length + 1 ≤ 64 := by omega
              have hf1 : r1.length < f := by omega
              have hm1 : r1.length ≤ r.length := hle
            case' inr.inr.inr.inr =>
              have k46 : decide (c.toNat = 46) = false := dec_f h46
              have k92 : decide (c.toNat = 92) = false := dec_f h92
              have k91 : decide (c.toNat = 91) = false := dec_f h91
              have hs1 : Suf s r := hl.tail
              have hle : r.length ≤ r.length := Nat.le_refl _
              rw [hat] at hr
              simp only [if_true] at hr
              simp only [go_sem, s_ref09_Compile_b0, d0, List.length_cons, g0, k36, k94, k42, k93, k46, k92, k91, ↓reduceIte, Nat.reduceEqDiff, Nat.reduceAdd, Nat.reduceLeDiff, reduceCtorEq, Int.natCast_nonneg, List.getElem?_map, Int.toNat_natCast, List.length_map, List.replicate_zero, Bool.bne_false, Bool.bne_true, Nat.reduceLT, Int.reduceLT, Int.reduceLE, Int.reduceEq, Int.reduceToNat, List.length_replicate, List.isEmpty_cons, List.isEmpty_nil, Nat.le_refl, Int.le_refl, Int.sub_zero, Int.sub_self, ne_eq, List.length_append, Int.toNat_zero, Nat.zero_mul, Nat.mul_one, Nat.one_mul, Nat.reduceMul]
              refine Cl_plain (f_ref09_one c.toNat hcb) ?_
              simp only [go_sem, ea, ↓reduceIte, Nat.reduceEqDiff, Nat.reduceAdd, Nat.reduceLeDiff, reduceCtorEq, Int.natCast_nonneg, List.getElem?_map, Int.toNat_natCast, List.length_map, List.replicate_zero, Bool.bne_false, Bool.bne_true, Nat.reduceLT, Int.reduceLT, Int.reduceLE, Int.reduceEq, Int.reduceToNat, List.length_replicate, List.isEmpty_cons, List.isEmpty_nil, Nat.le_refl, Int.le_refl, Int.sub_zero, Int.sub_self, ne_eq, List.length_append, Int.toNat_zero, Nat.zero_mul, Nat.mul_one, Nat.one_mul, Nat.reduceMul]
              clear hat
              generalize 2 ^ c.toNat = n at *
              have e2 : ∀ st, acc.map itemT ++ [[.v (.int .u64 ((n % 18446744073709551616 : Nat) : Int)), .v (.int .u64 ((n / 18446744073709551616 % 18446744073709551616 : Nat) : Int)), .v (.int .u64 ((n / 340282366920938463463374607431768211456 % 18446744073709551616 : Nat) : Int)), .v (.int .u64 ((n / (18446744073709551616 * 340282366920938463463374607431768211456) % 18446744073709551616 : Nat) : Int)), .v (.bool st)]] = (acc ++ [(n, st)]).map itemT := by intro st; simp [itemT]
              obtain ⟨r1, rfl⟩ : ∃ r1, r1 = r := ⟨r, rfl⟩
              have hk1 : acc.length + r1.length + 1 ≤ 64 := by omega
              have hf1 : r1.length < f := by omega
              have hm1 : r1.length ≤ r1.length := Nat.le_refl _
            all_goals
              have b1 : (acc.length + 1) * 40 ≤ 2 ^ 47 := by omega
              have b2 : acc.length + 1 < 2 ^ 47 := by omega
              have hl1 := hs1.len
              cases r1 with
              | nil =>
                have s0 : decide (s.size < s.size) = false := by simp
                simp only [go_sem, List.length_nil, Nat.sub_zero, s0, b1, b2, e2, ↓reduceIte, Nat.reduceEqDiff, Nat.reduceAdd, Nat.reduceLeDiff, reduceCtorEq, Int.natCast_nonneg, List.getElem?_map, Int.toNat_natCast, List.length_map, List.replicate_zero, Bool.bne_false, Bool.bne_true, Nat.reduceLT, Int.reduceLT, Int.reduceLE, Int.reduceEq, Int.reduceToNat, List.length_replicate, List.isEmpty_cons, List.isEmpty_nil, Nat.le_refl, Int.le_refl, Int.sub_zero, Int.sub_self, ne_eq, List.length_append, Int.toNat_zero, Nat.zero_mul, Nat.mul_one, Nat.one_mul, Nat.reduceMul]
                refine rd_of ([], acc ++ [(n, false)]) (by simp) ⟨hs1, by simp only [List.length_append, List.length_cons, List.length_nil] at *; omega, f, by simp only [List.length_nil] at *; omega, hr⟩ ?_
                exact (subL [(999, 230)] [] (by simp [envS, go_sem, wkV, wkL, AV.ids, idsL, keysOf, ren, stoOf, slTrees, AV.asOwn, rowPart, AV.isNil, setL, pst] <;> assumption) (by simp [stoS, go_sem, wkV, wkL, wkO, AV.ids, Ob.ids, idsL, keysOf, ren, AV.one, stoOf, slTrees, AV.asOwn, rowPart, AV.isNil, setL, pst] <;> assumption) (by simp [keysOf, ren]) (by simp [stoOf, keysOf, ren]) (by simp [keysOf, ren]) (by simp [keysOf, ren]))
              | cons x r2 =>
                have gx := hs1.get 0
                simp only [List.length_cons, Nat.add_zero, List.getElem?_cons_zero] at gx hl1 hk1 hf1 hm1
                have s0 : decide (s.size - (r2.length + 1) < s.size) = true := decide_eq_true (by omega)
                cases hx : decide (x.toNat = 42)
                · have qx := of_decide_eq_false hx
                  have hk42 : skipM 42 (x :: r2) = (false, x :: r2) := by simp only [skipM, if_neg qx]
                  rw [hk42] at hr
                  simp only [go_sem, List.length_cons, s0, gx, hx, b1, b2, e2, ↓reduceIte, Nat.reduceEqDiff, Nat.reduceAdd, Nat.reduceLeDiff, reduceCtorEq, Int.natCast_nonneg, List.getElem?_map, Int.toNat_natCast, List.length_map, List.replicate_zero, Bool.bne_false, Bool.bne_true, Nat.reduceLT, Int.reduceLT, Int.reduceLE, Int.reduceEq, Int.reduceToNat, List.length_replicate, List.isEmpty_cons, List.isEmpty_nil, Nat.le_refl, Int.le_refl, Int.sub_zero, Int.sub_self, ne_eq, List.length_append, Int.toNat_zero, Nat.zero_mul, Nat.mul_one, Nat.one_mul, Nat.reduceMul]
                  refine rd_of (x :: r2, acc ++ [(n, false)]) (by simp only [List.length_cons] at *; omega) ⟨hs1, by simp only [List.length_append, List.length_cons, List.length_nil]; omega, f, by simp only [List.length_cons]; omega, hr⟩ ?_
                  exact (subL [(999, 230)] [] (by simp [envS, go_sem, wkV, wkL, AV.ids, idsL, keysOf, ren, stoOf, slTrees, AV.asOwn, rowPart, AV.isNil, setL, pst] <;> assumption) (by simp [stoS, go_sem, wkV, wkL, wkO, AV.ids, Ob.ids, idsL, keysOf, ren, AV.one, stoOf, slTrees, AV.asOwn, rowPart, AV.isNil, setL, pst] <;> assumption) (by simp [keysOf, ren]) (by simp [stoOf, keysOf, ren]) (by simp [keysOf, ren]) (by simp [keysOf, ren]))
                · have qx := of_decide_eq_true hx
                  have hk42 : skipM 42 (x :: r2) = (true, r2) := by simp only [skipM, if_pos qx]
                  have ez : IntKind.i64.wrap (((s.size - (r2.length + 1) : Nat) : Int) + 1) = ((s.size - r2.length : Nat) : Int) := by rw [wrap_i64_of (by omega) (by omega)]; omega
                  rw [hk42] at hr
                  simp only [go_sem, List.length_cons, s0, gx, hx, ez, b1, b2, e2, ↓reduceIte, Nat.reduceEqDiff, Nat.reduceAdd, Nat.reduceLeDiff, reduceCtorEq, Int.natCast_nonneg, List.getElem?_map, Int.toNat_natCast, List.length_map, List.replicate_zero, Bool.bne_false, Bool.bne_true, Nat.reduceLT, Int.reduceLT, Int.reduceLE, Int.reduceEq, Int.reduceToNat, List.length_replicate, List.isEmpty_cons, List.isEmpty_nil, Nat.le_refl, Int.le_refl, Int.sub_zero, Int.sub_self, ne_eq, List.length_append, Int.toNat_zero, Nat.zero_mul, Nat.mul_one, Nat.one_mul, Nat.reduceMul]
                  refine rd_of (r2, acc ++ [(n, true)]) (by simp only [List.length_cons] at *; omega) ⟨hs1.tail, by simp only [List.length_append, List.length_cons, List.length_nil]; omega, f, by simp only; omega, hr⟩ ?_
                  exact (subL [(999, 230)] [] (by simp [envS, go_sem, wkV, wkL, AV.ids, idsL, keysOf, ren, stoOf, slTrees, AV.asOwn, rowPart, AV.isNil, setL, pst] <;> assumption) (by simp [stoS, go_sem, wkV, wkL, wkO, AV.ids, Ob.ids, idsL, keysOf, ren, AV.one, stoOf, slTrees, AV.asOwn, rowPart, AV.isNil, setL, pst] <;> assumption) (by simp [keysOf, ren]) (by simp [stoOf, keysOf, ren]) (by simp [keysOf, ren]) (by simp [keysOf, ren]))

theorem f_ref09_Match (p tx : ByteArray) (hp : p.size < 4611686018427387904) (ht : tx.size < 70368744177664) : Meets Try.prog E0 n_ref09_Match [.t (.v (.string p)), .t (.v (.string tx))] [] (.tp [Bo (if (compM p.data.toList).2 = 0 then foundM (compM p.data.toList).1.1 (compM p.data.toList).1.2.1 (compM p.data.toList).1.2.2 tx.data.toList else false), I (compM p.data.toList).2]) [] := by
  refine m_ref09_Match (by simp) (shut0 rfl) (shut0 rfl) (by simp) (by simp [keysOf]) ?_
  simp only [go_sem, s_ref09_Match, ↓reduceIte, Nat.reduceEqDiff, Nat.reduceAdd, Nat.reduceLeDiff, reduceCtorEq, Int.natCast_nonneg, List.getElem?_map, Int.toNat_natCast, List.length_map, List.replicate_zero, Bool.bne_false, Bool.bne_true, Nat.reduceLT, Int.reduceLT, Int.reduceLE, Int.reduceEq, Int.reduceToNat, List.length_replicate, List.isEmpty_cons, List.isEmpty_nil, Nat.le_refl, Int.le_refl, Int.sub_zero, Int.sub_self, ne_eq, List.length_append, Int.toNat_zero, Nat.zero_mul, Nat.mul_one, Nat.one_mul, Nat.reduceMul]
  refine Cl_plain (f_ref09_Compile p hp) ?_
  have hlen := compM_len p.data.toList
  generalize compM p.data.toList = x at *
  obtain ⟨⟨a, z, is⟩, e⟩ := x
  simp only at hlen
  simp only [go_sem, ↓reduceIte, Nat.reduceEqDiff, Nat.reduceAdd, Nat.reduceLeDiff, reduceCtorEq, Int.natCast_nonneg, List.getElem?_map, Int.toNat_natCast, List.length_map, List.replicate_zero, Bool.bne_false, Bool.bne_true, Nat.reduceLT, Int.reduceLT, Int.reduceLE, Int.reduceEq, Int.reduceToNat, List.length_replicate, List.isEmpty_cons, List.isEmpty_nil, Nat.le_refl, Int.le_refl, Int.sub_zero, Int.sub_self, ne_eq, List.length_append, Int.toNat_zero, Nat.zero_mul, Nat.mul_one, Nat.one_mul, Nat.reduceMul]
  refine W_split rfl (fun h => ?_) (fun h => ?_)
  · simp at h
    simp only [go_sem, ↓reduceIte, Nat.reduceEqDiff, Nat.reduceAdd, Nat.reduceLeDiff, reduceCtorEq, Int.natCast_nonneg, List.getElem?_map, Int.toNat_natCast, List.length_map, List.replicate_zero, Bool.bne_false, Bool.bne_true, Nat.reduceLT, Int.reduceLT, Int.reduceLE, Int.reduceEq, Int.reduceToNat, List.length_replicate, List.isEmpty_cons, List.isEmpty_nil, Nat.le_refl, Int.le_refl, Int.sub_zero, Int.sub_self, ne_eq, List.length_append, Int.toNat_zero, Nat.zero_mul, Nat.mul_one, Nat.one_mul, Nat.reduceMul]
    refine wends (by first | exact Or.inl rfl | exact Or.inr rfl) ?_ (by first | rfl | simp [AV.ids, idsL])
    simp only [go_sem, r_ref09_Match, ↓reduceIte, Nat.reduceEqDiff, Nat.reduceAdd, Nat.reduceLeDiff, reduceCtorEq, Int.natCast_nonneg, List.getElem?_map, Int.toNat_natCast, List.length_map, List.replicate_zero, Bool.bne_false, Bool.bne_true, Nat.reduceLT, Int.reduceLT, Int.reduceLE, Int.reduceEq, Int.reduceToNat, List.length_replicate, List.isEmpty_cons, List.isEmpty_nil, Nat.le_refl, Int.le_refl, Int.sub_zero, Int.sub_self, ne_eq, List.length_append, Int.toNat_zero, Nat.zero_mul, Nat.mul_one, Nat.one_mul, Nat.reduceMul]
    simp [h]
  · simp at h
    simp only [go_sem, ↓reduceIte, Nat.reduceEqDiff, Nat.reduceAdd, Nat.reduceLeDiff, reduceCtorEq, Int.natCast_nonneg, List.getElem?_map, Int.toNat_natCast, List.length_map, List.replicate_zero, Bool.bne_false, Bool.bne_true, Nat.reduceLT, Int.reduceLT, Int.reduceLE, Int.reduceEq, Int.reduceToNat, List.length_replicate, List.isEmpty_cons, List.isEmpty_nil, Nat.le_refl, Int.le_refl, Int.sub_zero, Int.sub_self, ne_eq, List.length_append, Int.toNat_zero, Nat.zero_mul, Nat.mul_one, Nat.one_mul, Nat.reduceMul]
    refine Cl_plain (f_ref09_Found a z is (by omega) tx ht) ?_
    simp only [go_sem, ↓reduceIte, Nat.reduceEqDiff, Nat.reduceAdd, Nat.reduceLeDiff, reduceCtorEq, Int.natCast_nonneg, List.getElem?_map, Int.toNat_natCast, List.length_map, List.replicate_zero, Bool.bne_false, Bool.bne_true, Nat.reduceLT, Int.reduceLT, Int.reduceLE, Int.reduceEq, Int.reduceToNat, List.length_replicate, List.isEmpty_cons, List.isEmpty_nil, Nat.le_refl, Int.le_refl, Int.sub_zero, Int.sub_self, ne_eq, List.length_append, Int.toNat_zero, Nat.zero_mul, Nat.mul_one, Nat.one_mul, Nat.reduceMul]
    refine wends (by first | exact Or.inl rfl | exact Or.inr rfl) ?_ (by first | rfl | simp [AV.ids, idsL])
    simp only [go_sem, r_ref09_Match, ↓reduceIte, Nat.reduceEqDiff, Nat.reduceAdd, Nat.reduceLeDiff, reduceCtorEq, Int.natCast_nonneg, List.getElem?_map, Int.toNat_natCast, List.length_map, List.replicate_zero, Bool.bne_false, Bool.bne_true, Nat.reduceLT, Int.reduceLT, Int.reduceLE, Int.reduceEq, Int.reduceToNat, List.length_replicate, List.isEmpty_cons, List.isEmpty_nil, Nat.le_refl, Int.le_refl, Int.sub_zero, Int.sub_self, ne_eq, List.length_append, Int.toNat_zero, Nat.zero_mul, Nat.mul_one, Nat.one_mul, Nat.reduceMul]
    simp [h, found_ref]

end Go.Proofs.Ytgnokggmbkhnbaa
