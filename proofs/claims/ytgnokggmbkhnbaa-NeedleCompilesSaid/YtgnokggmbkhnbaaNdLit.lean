/- What a plain pattern finds. No statement of the seat is proved here. -/
import Derived.Test.YtgnokggmbkhnbaaNdPure
import Derived.Test.YtgnokggmbkhnbaaNdLaw
set_option linter.unusedSimpArgs false
set_option linter.unusedVariables false
namespace Go.Proofs.Ytgnokggmbkhnbaa
open Go Go.Sx

def plainB (c : UInt8) : Bool := (decide (97 ≤ c.toNat) && decide (c.toNat ≤ 122)) || (decide (65 ≤ c.toNat) && decide (c.toNat ≤ 90)) || (decide (48 ≤ c.toNat) && decide (c.toNat ≤ 57)) || decide (c.toNat = 95) || decide (c.toNat = 45)

theorem plain_ne {c : UInt8} (h : plainB c = true) : c.toNat ≠ 94 ∧ c.toNat ≠ 36 ∧ c.toNat ≠ 42 ∧ c.toNat ≠ 93 ∧ c.toNat ≠ 46 ∧ c.toNat ≠ 91 ∧ c.toNat ≠ 92 := by
  simp only [plainB, Bool.or_eq_true, Bool.and_eq_true, decide_eq_true_eq] at h
  omega

def lit (c : UInt8) : Item := (2 ^ c.toNat, false)

theorem atom_plain {c : UInt8} (h : plainB c = true) (r : List UInt8) : atomM (c :: r) = (2 ^ c.toNat, true, r) := by
  obtain ⟨h1, h2, h3, h4, h5, h6, h7⟩ := plain_ne h
  simp [atomM, h1, h2, h3, h4, h5, h6, h7]

theorem skip_plain {c : UInt8} {b : Nat} (h : c.toNat ≠ b) (r : List UInt8) : skipM b (c :: r) = (false, c :: r) := by simp [skipM, h]

theorem items_plain : ∀ (l : List UInt8) (f : Nat) (acc : List Item), (∀ c ∈ l, plainB c = true) → l.length < f → itemsM f l acc = some (false, acc ++ l.map lit)
  | [], f + 1, acc, _, _ => by simp [itemsM]
  | c :: r, f + 1, acc, h, hf => by
    have hc := h c (by simp)
    have hn := plain_ne hc
    have hs : skipM 42 r = (false, r) := by
      cases r with
      | nil => rfl
      | cons d r' => exact skip_plain (plain_ne (h d (by simp))).2.2.1 r'
    rw [itemsM, atom_plain hc, if_neg (by simp [hn.2.1]), if_pos rfl]
    simp only [hs]
    rw [items_plain r f _ (fun d hd => h d (by simp [hd])) (by simp at hf; omega)]
    simp [lit]

theorem items_plain_end : ∀ (l : List UInt8) (f : Nat) (acc : List Item), (∀ c ∈ l, plainB c = true) → l.length + 1 < f → itemsM f (l ++ [36]) acc = some (true, acc ++ l.map lit)
  | [], f + 1, acc, _, _ => by simp [itemsM]
  | c :: r, f + 1, acc, h, hf => by
    have hc := h c (by simp)
    have hn := plain_ne hc
    have hs : skipM 42 (r ++ [36]) = (false, r ++ [36]) := by
      cases r with
      | nil => rfl
      | cons d r' => exact skip_plain (plain_ne (h d (by simp))).2.2.1 (r' ++ [36])
    rw [List.cons_append, itemsM, atom_plain hc, if_neg (by simp), if_pos rfl]
    simp only [hs]
    rw [items_plain_end r f _ (fun d hd => h d (by simp [hd])) (by simp at hf; omega)]
    simp [lit]

theorem comp_plain (l : List UInt8) (h : ∀ c ∈ l, plainB c = true) (hl : l.length ≤ 62) : compM l = ((false, false, l.map lit), 0) := by
  have hs : skipM 94 l = (false, l) := by
    cases l with
    | nil => rfl
    | cons d r => exact skip_plain (plain_ne (h d (by simp))).1 r
  rw [compM, if_neg (by omega), hs, items_plain l _ [] h (by omega)]
  simp

theorem comp_plain_end (l : List UInt8) (h : ∀ c ∈ l, plainB c = true) (hl : l.length ≤ 62) : compM (94 :: (l ++ [36])) = ((true, true, l.map lit), 0) := by
  have hs : skipM 94 (94 :: (l ++ [36])) = (true, l ++ [36]) := rfl
  rw [compM, if_neg (by simp; omega), hs, items_plain_end l _ [] h (by simp)]
  simp

theorem fit_lit (tx : List UInt8) (c : UInt8) (k : Nat) : fitTx tx (2 ^ c.toNat) k = true ↔ tx[k]? = some c := by
  unfold fitTx
  cases h : tx[k]? with
  | none => simp
  | some d =>
    simp only [Option.map_some, Option.getD_some, Nat.testBit_two_pow, decide_eq_true_eq, Option.some.injEq]
    exact ⟨fun h => (UInt8.toNat_inj.1 h).symm, fun h => by rw [h]⟩

theorem next_lit (fit E : Nat → Bool) (k : Nat) : nextE false fit E k = true ↔ ∃ j, k = j + 1 ∧ E j = true ∧ fit j = true := by
  cases k with
  | zero => simp [nextE]
  | succ k => simp [nextE]

theorem pre_cons {c : UInt8} {r tx : List UInt8} {j : Nat} : (c :: r) <+: tx.drop j ↔ tx[j]? = some c ∧ r <+: tx.drop (j + 1) := by
  constructor
  · rintro ⟨t, h⟩
    have h0 : tx[j]? = some c := by
      have := congrArg (fun l => l[0]?) h
      simpa using this.symm
    refine ⟨h0, t, ?_⟩
    rw [drop_get h0] at h
    simpa using h
  · rintro ⟨h0, t, h⟩
    rw [drop_get h0]
    exact ⟨t, by simp [h]⟩

theorem ends_lit (a : Bool) (tx : List UInt8) : ∀ (l : List UInt8) (E : Nat → Bool) (k : Nat), endsE a tx (l.map lit) E k = true ↔ ∃ j, k = j + l.length ∧ E j = true ∧ l <+: tx.drop j
  | [], E, k => by simp [endsE]
  | c :: r, E, k => by
    rw [List.map_cons, endsE, ends_lit a tx r]
    simp only [lit, next_lit, fit_lit, pre_cons]
    constructor
    · rintro ⟨i, rfl, ⟨j, rfl, h1, h2⟩, h3⟩
      exact ⟨j, by simp; omega, h1, h2, h3⟩
    · rintro ⟨j, rfl, h1, h2, h3⟩
      exact ⟨j + 1, by simp; omega, ⟨j, rfl, h1, h2⟩, h3⟩

theorem found_lit (l tx : List UInt8) : foundM false false (l.map lit) tx = true ↔ ∃ j, j + l.length ≤ tx.length ∧ l <+: tx.drop j := by
  rw [found_iff]
  simp only [Bool.false_eq_true, if_false, endI_all, ends_lit, firstE, Bool.not_false, Bool.true_or, true_and]
  constructor
  · rintro ⟨k, hk, j, rfl, h⟩
    exact ⟨j, hk, h⟩
  · rintro ⟨j, hj, h⟩
    exact ⟨_, hj, j, rfl, h⟩

theorem found_lit_all (l tx : List UInt8) : foundM true true (l.map lit) tx = true ↔ tx = l := by
  rw [found_iff]
  simp only [if_true, endI_all, ends_lit, firstE, Bool.not_true, Bool.false_or, beq_iff_eq]
  constructor
  · rintro ⟨j, hj, rfl, h⟩
    rw [List.drop_zero] at h
    exact (h.eq_of_length (by omega)).symm
  · rintro rfl
    exact ⟨0, by simp, rfl, by simp⟩

theorem bl_loop (b : ByteArray) : ∀ (n i : Nat) (r : List UInt8), b.size = i + n → ByteArray.toList.loop b i r = r.reverse ++ b.data.toList.drop i
  | 0, i, r, h => by
    rw [ByteArray.toList.loop, if_neg (by omega), List.drop_eq_nil_of_le (by have := ba_len b; omega)]
    simp
  | n + 1, i, r, h => by
    have hi : i < b.data.toList.length := by have := ba_len b; omega
    obtain ⟨c, hc⟩ := get_of_lt hi
    have hg : b.get! i = c := by
      have := ba_get b i
      rw [hc] at this
      rw [ByteArray.get!]
      simp at hc
      obtain ⟨_, hc⟩ := Array.getElem?_eq_some_iff.1 hc
      rw [getElem!_pos _ _ (by assumption)]
      exact hc
    rw [ByteArray.toList.loop, if_pos (by omega), bl_loop b n (i + 1) _ (by omega), hg, drop_get hc]
    simp

theorem bl_list (b : ByteArray) : b.toList = b.data.toList := by
  rw [ByteArray.toList, bl_loop b b.size 0 [] (by omega)]
  simp

theorem str_eql (x y : ByteArray) : binStr .eql x y = some (.bool (decide (x.data.toList = y.data.toList))) := by
  simp only [binStr, bl_list]
  congr 2
  rw [Bool.eq_iff_iff]
  simp

theorem ext_list (s : ByteArray) (i n : Nat) : (s.extract i (i + n)).data.toList = (s.data.toList.drop i).take n := by
  rw [ByteArray.data_extract, Array.toList_extract, List.extract_eq_take_drop]
  congr 1
  omega

theorem f_law09_plain (s : ByteArray) (hs : s.size < 9223372036854775808) : Meets Try.prog E0 n_law09_plain [.t (.v (.string s))] [] (Bo (s.data.toList.all plainB)) [] := by
  refine m_law09_plain (by simp) (shut0 rfl) (shut0 rfl) (by simp) (by simp [keysOf]) ?_
  simp only [go_sem, s_law09_plain, ↓reduceIte, Nat.reduceEqDiff, Nat.reduceAdd, Nat.reduceLeDiff, reduceCtorEq, Int.natCast_nonneg, List.getElem?_map, Int.toNat_natCast, List.length_map, List.replicate_zero, Bool.bne_false, Bool.bne_true, Nat.reduceLT, Int.reduceLT, Int.reduceLE, Int.reduceEq, Int.reduceToNat, List.length_replicate, List.isEmpty_cons, List.isEmpty_nil, Nat.le_refl, Int.le_refl, Int.sub_zero, Int.sub_self, ne_eq, List.length_append, Int.toNat_zero, Nat.zero_mul, Nat.mul_one, Nat.one_mul, Nat.reduceMul]
  refine W_loop (fun k : Nat => s.size - k) (fun k => k ≤ s.size ∧ ∀ c ∈ s.data.toList.take k, plainB c = true)
    (fun k => [(0, .t (.v (.string s))), (3, I k)]) (fun k => []) 0 (by simp) ?_ ?_
  · exact (subL [] [] (by simp [envS, go_sem, wkV, wkL, AV.ids, idsL, keysOf, ren, stoOf, slTrees, AV.asOwn, rowPart, AV.isNil, setL, pst] <;> assumption) (by simp [stoS, go_sem, wkV, wkL, wkO, AV.ids, Ob.ids, idsL, keysOf, ren, AV.one, stoOf, slTrees, AV.asOwn, rowPart, AV.isNil, setL, pst] <;> assumption) (by simp [keysOf, ren]) (by simp [stoOf, keysOf, ren]) (by simp [keysOf, ren]) (by simp [keysOf, ren]))
  · rintro k ⟨hk, hp⟩
    have hl := ba_len s
    simp only [go_sem, ↓reduceIte, Nat.reduceEqDiff, Nat.reduceAdd, Nat.reduceLeDiff, reduceCtorEq, Int.natCast_nonneg, List.getElem?_map, Int.toNat_natCast, List.length_map, List.replicate_zero, Bool.bne_false, Bool.bne_true, Nat.reduceLT, Int.reduceLT, Int.reduceLE, Int.reduceEq, Int.reduceToNat, List.length_replicate, List.isEmpty_cons, List.isEmpty_nil, Nat.le_refl, Int.le_refl, Int.sub_zero, Int.sub_self, ne_eq, List.length_append, Int.toNat_zero, Nat.zero_mul, Nat.mul_one, Nat.one_mul, Nat.reduceMul]
    refine W_split rfl (fun h1 => ?_) (fun h1 => ?_)
    · simp at h1
      obtain ⟨c, hc⟩ := get_of_lt (l := s.data.toList) (i := k) (by omega)
      have hg := ba_get s k
      rw [hc] at hg
      have ek : IntKind.i64.wrap ((k : Int) + 1) = ((k + 1 : Nat) : Int) := by rw [wrap_i64_of (by omega) (by omega)]; omega
      have hnext : plainB c = true → ∀ d ∈ s.data.toList.take (k + 1), plainB d = true := by
        intro hpl d hd
        rw [List.take_add_one, hc] at hd
        simp at hd
        rcases hd with hd | rfl
        · exact hp d (by simpa using hd)
        · exact hpl
      have hstop : plainB c = false → s.data.toList.all plainB = false := by
        intro hpl
        rw [List.all_eq_false]
        exact ⟨c, List.mem_of_getElem? hc, by simp [hpl]⟩
      have hc8 := u8_lt c
      have hall : (c.toNat < 45) ∨ (c.toNat = 45) ∨ (46 ≤ c.toNat ∧ c.toNat ≤ 47) ∨ (48 ≤ c.toNat ∧ c.toNat ≤ 57) ∨ (58 ≤ c.toNat ∧ c.toNat ≤ 64) ∨ (65 ≤ c.toNat ∧ c.toNat ≤ 90) ∨ (91 ≤ c.toNat ∧ c.toNat ≤ 94) ∨ (c.toNat = 95) ∨ (c.toNat = 96) ∨ (97 ≤ c.toNat ∧ c.toNat ≤ 122) ∨ (123 ≤ c.toNat) := by omega
      rcases hall with h2 | h2 | h2 | h2 | h2 | h2 | h2 | h2 | h2 | h2 | h2
      · have hpl : plainB c = false := by simp [plainB]; omega
        have d0 : decide (97 ≤ c.toNat) = false := by simp; omega
        have d1 : decide (c.toNat ≤ 122) = true := by simp; omega
        have d2 : decide (65 ≤ c.toNat) = false := by simp; omega
        have d3 : decide (c.toNat ≤ 90) = true := by simp; omega
        have d4 : decide (48 ≤ c.toNat) = false := by simp; omega
        have d5 : decide (c.toNat ≤ 57) = true := by simp; omega
        have d6 : decide (c.toNat = 95) = false := by simp; omega
        have d7 : decide (c.toNat = 45) = false := by simp; omega
        simp only [go_sem, hg, ek, d0, d1, d2, d3, d4, d5, d6, d7, ↓reduceIte, Nat.reduceEqDiff, Nat.reduceAdd, Nat.reduceLeDiff, reduceCtorEq, Int.natCast_nonneg, List.getElem?_map, Int.toNat_natCast, List.length_map, List.replicate_zero, Bool.bne_false, Bool.bne_true, Nat.reduceLT, Int.reduceLT, Int.reduceLE, Int.reduceEq, Int.reduceToNat, List.length_replicate, List.isEmpty_cons, List.isEmpty_nil, Nat.le_refl, Int.le_refl, Int.sub_zero, Int.sub_self, ne_eq, List.length_append, Int.toNat_zero, Nat.zero_mul, Nat.mul_one, Nat.one_mul, Nat.reduceMul]
        refine wends (by first | exact Or.inl rfl | exact Or.inr rfl) ?_ (by first | rfl | simp [AV.ids, idsL])
        simp only [go_sem, r_law09_plain, ↓reduceIte, Nat.reduceEqDiff, Nat.reduceAdd, Nat.reduceLeDiff, reduceCtorEq, Int.natCast_nonneg, List.getElem?_map, Int.toNat_natCast, List.length_map, List.replicate_zero, Bool.bne_false, Bool.bne_true, Nat.reduceLT, Int.reduceLT, Int.reduceLE, Int.reduceEq, Int.reduceToNat, List.length_replicate, List.isEmpty_cons, List.isEmpty_nil, Nat.le_refl, Int.le_refl, Int.sub_zero, Int.sub_self, ne_eq, List.length_append, Int.toNat_zero, Nat.zero_mul, Nat.mul_one, Nat.one_mul, Nat.reduceMul]
        rw [hstop hpl]
      · have hpl : plainB c = true := by simp [plainB]; omega
        have d0 : decide (97 ≤ c.toNat) = false := by simp; omega
        have d1 : decide (c.toNat ≤ 122) = true := by simp; omega
        have d2 : decide (65 ≤ c.toNat) = false := by simp; omega
        have d3 : decide (c.toNat ≤ 90) = true := by simp; omega
        have d4 : decide (48 ≤ c.toNat) = false := by simp; omega
        have d5 : decide (c.toNat ≤ 57) = true := by simp; omega
        have d6 : decide (c.toNat = 95) = false := by simp; omega
        have d7 : decide (c.toNat = 45) = true := by simp; omega
        simp only [go_sem, hg, ek, d0, d1, d2, d3, d4, d5, d6, d7, ↓reduceIte, Nat.reduceEqDiff, Nat.reduceAdd, Nat.reduceLeDiff, reduceCtorEq, Int.natCast_nonneg, List.getElem?_map, Int.toNat_natCast, List.length_map, List.replicate_zero, Bool.bne_false, Bool.bne_true, Nat.reduceLT, Int.reduceLT, Int.reduceLE, Int.reduceEq, Int.reduceToNat, List.length_replicate, List.isEmpty_cons, List.isEmpty_nil, Nat.le_refl, Int.le_refl, Int.sub_zero, Int.sub_self, ne_eq, List.length_append, Int.toNat_zero, Nat.zero_mul, Nat.mul_one, Nat.one_mul, Nat.reduceMul]
        refine rd_of (k + 1) (by first | omega | (simp only; omega)) ⟨by omega, hnext hpl⟩ ?_
        exact (subL [] [] (by simp [envS, go_sem, wkV, wkL, AV.ids, idsL, keysOf, ren, stoOf, slTrees, AV.asOwn, rowPart, AV.isNil, setL, pst] <;> assumption) (by simp [stoS, go_sem, wkV, wkL, wkO, AV.ids, Ob.ids, idsL, keysOf, ren, AV.one, stoOf, slTrees, AV.asOwn, rowPart, AV.isNil, setL, pst] <;> assumption) (by simp [keysOf, ren]) (by simp [stoOf, keysOf, ren]) (by simp [keysOf, ren]) (by simp [keysOf, ren]))
      · have hpl : plainB c = false := by simp [plainB]; omega
        have d0 : decide (97 ≤ c.toNat) = false := by simp; omega
        have d1 : decide (c.toNat ≤ 122) = true := by simp; omega
        have d2 : decide (65 ≤ c.toNat) = false := by simp; omega
        have d3 : decide (c.toNat ≤ 90) = true := by simp; omega
        have d4 : decide (48 ≤ c.toNat) = false := by simp; omega
        have d5 : decide (c.toNat ≤ 57) = true := by simp; omega
        have d6 : decide (c.toNat = 95) = false := by simp; omega
        have d7 : decide (c.toNat = 45) = false := by simp; omega
        simp only [go_sem, hg, ek, d0, d1, d2, d3, d4, d5, d6, d7, ↓reduceIte, Nat.reduceEqDiff, Nat.reduceAdd, Nat.reduceLeDiff, reduceCtorEq, Int.natCast_nonneg, List.getElem?_map, Int.toNat_natCast, List.length_map, List.replicate_zero, Bool.bne_false, Bool.bne_true, Nat.reduceLT, Int.reduceLT, Int.reduceLE, Int.reduceEq, Int.reduceToNat, List.length_replicate, List.isEmpty_cons, List.isEmpty_nil, Nat.le_refl, Int.le_refl, Int.sub_zero, Int.sub_self, ne_eq, List.length_append, Int.toNat_zero, Nat.zero_mul, Nat.mul_one, Nat.one_mul, Nat.reduceMul]
        refine wends (by first | exact Or.inl rfl | exact Or.inr rfl) ?_ (by first | rfl | simp [AV.ids, idsL])
        simp only [go_sem, r_law09_plain, ↓reduceIte, Nat.reduceEqDiff, Nat.reduceAdd, Nat.reduceLeDiff, reduceCtorEq, Int.natCast_nonneg, List.getElem?_map, Int.toNat_natCast, List.length_map, List.replicate_zero, Bool.bne_false, Bool.bne_true, Nat.reduceLT, Int.reduceLT, Int.reduceLE, Int.reduceEq, Int.reduceToNat, List.length_replicate, List.isEmpty_cons, List.isEmpty_nil, Nat.le_refl, Int.le_refl, Int.sub_zero, Int.sub_self, ne_eq, List.length_append, Int.toNat_zero, Nat.zero_mul, Nat.mul_one, Nat.one_mul, Nat.reduceMul]
        rw [hstop hpl]
      · have hpl : plainB c = true := by simp [plainB]; omega
        have d0 : decide (97 ≤ c.toNat) = false := by simp; omega
        have d1 : decide (c.toNat ≤ 122) = true := by simp; omega
        have d2 : decide (65 ≤ c.toNat) = false := by simp; omega
        have d3 : decide (c.toNat ≤ 90) = true := by simp; omega
        have d4 : decide (48 ≤ c.toNat) = true := by simp; omega
        have d5 : decide (c.toNat ≤ 57) = true := by simp; omega
        have d6 : decide (c.toNat = 95) = false := by simp; omega
        have d7 : decide (c.toNat = 45) = false := by simp; omega
        simp only [go_sem, hg, ek, d0, d1, d2, d3, d4, d5, d6, d7, ↓reduceIte, Nat.reduceEqDiff, Nat.reduceAdd, Nat.reduceLeDiff, reduceCtorEq, Int.natCast_nonneg, List.getElem?_map, Int.toNat_natCast, List.length_map, List.replicate_zero, Bool.bne_false, Bool.bne_true, Nat.reduceLT, Int.reduceLT, Int.reduceLE, Int.reduceEq, Int.reduceToNat, List.length_replicate, List.isEmpty_cons, List.isEmpty_nil, Nat.le_refl, Int.le_refl, Int.sub_zero, Int.sub_self, ne_eq, List.length_append, Int.toNat_zero, Nat.zero_mul, Nat.mul_one, Nat.one_mul, Nat.reduceMul]
        refine rd_of (k + 1) (by first | omega | (simp only; omega)) ⟨by omega, hnext hpl⟩ ?_
        exact (subL [] [] (by simp [envS, go_sem, wkV, wkL, AV.ids, idsL, keysOf, ren, stoOf, slTrees, AV.asOwn, rowPart, AV.isNil, setL, pst] <;> assumption) (by simp [stoS, go_sem, wkV, wkL, wkO, AV.ids, Ob.ids, idsL, keysOf, ren, AV.one, stoOf, slTrees, AV.asOwn, rowPart, AV.isNil, setL, pst] <;> assumption) (by simp [keysOf, ren]) (by simp [stoOf, keysOf, ren]) (by simp [keysOf, ren]) (by simp [keysOf, ren]))
      · have hpl : plainB c = false := by simp [plainB]; omega
        have d0 : decide (97 ≤ c.toNat) = false := by simp; omega
        have d1 : decide (c.toNat ≤ 122) = true := by simp; omega
        have d2 : decide (65 ≤ c.toNat) = false := by simp; omega
        have d3 : decide (c.toNat ≤ 90) = true := by simp; omega
        have d4 : decide (48 ≤ c.toNat) = true := by simp; omega
        have d5 : decide (c.toNat ≤ 57) = false := by simp; omega
        have d6 : decide (c.toNat = 95) = false := by simp; omega
        have d7 : decide (c.toNat = 45) = false := by simp; omega
        simp only [go_sem, hg, ek, d0, d1, d2, d3, d4, d5, d6, d7, ↓reduceIte, Nat.reduceEqDiff, Nat.reduceAdd, Nat.reduceLeDiff, reduceCtorEq, Int.natCast_nonneg, List.getElem?_map, Int.toNat_natCast, List.length_map, List.replicate_zero, Bool.bne_false, Bool.bne_true, Nat.reduceLT, Int.reduceLT, Int.reduceLE, Int.reduceEq, Int.reduceToNat, List.length_replicate, List.isEmpty_cons, List.isEmpty_nil, Nat.le_refl, Int.le_refl, Int.sub_zero, Int.sub_self, ne_eq, List.length_append, Int.toNat_zero, Nat.zero_mul, Nat.mul_one, Nat.one_mul, Nat.reduceMul]
        refine wends (by first | exact Or.inl rfl | exact Or.inr rfl) ?_ (by first | rfl | simp [AV.ids, idsL])
        simp only [go_sem, r_law09_plain, ↓reduceIte, Nat.reduceEqDiff, Nat.reduceAdd, Nat.reduceLeDiff, reduceCtorEq, Int.natCast_nonneg, List.getElem?_map, Int.toNat_natCast, List.length_map, List.replicate_zero, Bool.bne_false, Bool.bne_true, Nat.reduceLT, Int.reduceLT, Int.reduceLE, Int.reduceEq, Int.reduceToNat, List.length_replicate, List.isEmpty_cons, List.isEmpty_nil, Nat.le_refl, Int.le_refl, Int.sub_zero, Int.sub_self, ne_eq, List.length_append, Int.toNat_zero, Nat.zero_mul, Nat.mul_one, Nat.one_mul, Nat.reduceMul]
        rw [hstop hpl]
      · have hpl : plainB c = true := by simp [plainB]; omega
        have d0 : decide (97 ≤ c.toNat) = false := by simp; omega
        have d1 : decide (c.toNat ≤ 122) = true := by simp; omega
        have d2 : decide (65 ≤ c.toNat) = true := by simp; omega
        have d3 : decide (c.toNat ≤ 90) = true := by simp; omega
        have d4 : decide (48 ≤ c.toNat) = true := by simp; omega
        have d5 : decide (c.toNat ≤ 57) = false := by simp; omega
        have d6 : decide (c.toNat = 95) = false := by simp; omega
        have d7 : decide (c.toNat = 45) = false := by simp; omega
        simp only [go_sem, hg, ek, d0, d1, d2, d3, d4, d5, d6, d7, ↓reduceIte, Nat.reduceEqDiff, Nat.reduceAdd, Nat.reduceLeDiff, reduceCtorEq, Int.natCast_nonneg, List.getElem?_map, Int.toNat_natCast, List.length_map, List.replicate_zero, Bool.bne_false, Bool.bne_true, Nat.reduceLT, Int.reduceLT, Int.reduceLE, Int.reduceEq, Int.reduceToNat, List.length_replicate, List.isEmpty_cons, List.isEmpty_nil, Nat.le_refl, Int.le_refl, Int.sub_zero, Int.sub_self, ne_eq, List.length_append, Int.toNat_zero, Nat.zero_mul, Nat.mul_one, Nat.one_mul, Nat.reduceMul]
        refine rd_of (k + 1) (by first | omega | (simp only; omega)) ⟨by omega, hnext hpl⟩ ?_
        exact (subL [] [] (by simp [envS, go_sem, wkV, wkL, AV.ids, idsL, keysOf, ren, stoOf, slTrees, AV.asOwn, rowPart, AV.isNil, setL, pst] <;> assumption) (by simp [stoS, go_sem, wkV, wkL, wkO, AV.ids, Ob.ids, idsL, keysOf, ren, AV.one, stoOf, slTrees, AV.asOwn, rowPart, AV.isNil, setL, pst] <;> assumption) (by simp [keysOf, ren]) (by simp [stoOf, keysOf, ren]) (by simp [keysOf, ren]) (by simp [keysOf, ren]))
      · have hpl : plainB c = false := by simp [plainB]; omega
        have d0 : decide (97 ≤ c.toNat) = false := by simp; omega
        have d1 : decide (c.toNat ≤ 122) = true := by simp; omega
        have d2 : decide (65 ≤ c.toNat) = true := by simp; omega
        have d3 : decide (c.toNat ≤ 90) = false := by simp; omega
        have d4 : decide (48 ≤ c.toNat) = true := by simp; omega
        have d5 : decide (c.toNat ≤ 57) = false := by simp; omega
        have d6 : decide (c.toNat = 95) = false := by simp; omega
        have d7 : decide (c.toNat = 45) = false := by simp; omega
        simp only [go_sem, hg, ek, d0, d1, d2, d3, d4, d5, d6, d7, ↓reduceIte, Nat.reduceEqDiff, Nat.reduceAdd, Nat.reduceLeDiff, reduceCtorEq, Int.natCast_nonneg, List.getElem?_map, Int.toNat_natCast, List.length_map, List.replicate_zero, Bool.bne_false, Bool.bne_true, Nat.reduceLT, Int.reduceLT, Int.reduceLE, Int.reduceEq, Int.reduceToNat, List.length_replicate, List.isEmpty_cons, List.isEmpty_nil, Nat.le_refl, Int.le_refl, Int.sub_zero, Int.sub_self, ne_eq, List.length_append, Int.toNat_zero, Nat.zero_mul, Nat.mul_one, Nat.one_mul, Nat.reduceMul]
        refine wends (by first | exact Or.inl rfl | exact Or.inr rfl) ?_ (by first | rfl | simp [AV.ids, idsL])
        simp only [go_sem, r_law09_plain, ↓reduceIte, Nat.reduceEqDiff, Nat.reduceAdd, Nat.reduceLeDiff, reduceCtorEq, Int.natCast_nonneg, List.getElem?_map, Int.toNat_natCast, List.length_map, List.replicate_zero, Bool.bne_false, Bool.bne_true, Nat.reduceLT, Int.reduceLT, Int.reduceLE, Int.reduceEq, Int.reduceToNat, List.length_replicate, List.isEmpty_cons, List.isEmpty_nil, Nat.le_refl, Int.le_refl, Int.sub_zero, Int.sub_self, ne_eq, List.length_append, Int.toNat_zero, Nat.zero_mul, Nat.mul_one, Nat.one_mul, Nat.reduceMul]
        rw [hstop hpl]
      · have hpl : plainB c = true := by simp [plainB]; omega
        have d0 : decide (97 ≤ c.toNat) = false := by simp; omega
        have d1 : decide (c.toNat ≤ 122) = true := by simp; omega
        have d2 : decide (65 ≤ c.toNat) = true := by simp; omega
        have d3 : decide (c.toNat ≤ 90) = false := by simp; omega
        have d4 : decide (48 ≤ c.toNat) = true := by simp; omega
        have d5 : decide (c.toNat ≤ 57) = false := by simp; omega
        have d6 : decide (c.toNat = 95) = true := by simp; omega
        have d7 : decide (c.toNat = 45) = false := by simp; omega
        simp only [go_sem, hg, ek, d0, d1, d2, d3, d4, d5, d6, d7, ↓reduceIte, Nat.reduceEqDiff, Nat.reduceAdd, Nat.reduceLeDiff, reduceCtorEq, Int.natCast_nonneg, List.getElem?_map, Int.toNat_natCast, List.length_map, List.replicate_zero, Bool.bne_false, Bool.bne_true, Nat.reduceLT, Int.reduceLT, Int.reduceLE, Int.reduceEq, Int.reduceToNat, List.length_replicate, List.isEmpty_cons, List.isEmpty_nil, Nat.le_refl, Int.le_refl, Int.sub_zero, Int.sub_self, ne_eq, List.length_append, Int.toNat_zero, Nat.zero_mul, Nat.mul_one, Nat.one_mul, Nat.reduceMul]
        refine rd_of (k + 1) (by first | omega | (simp only; omega)) ⟨by omega, hnext hpl⟩ ?_
        exact (subL [] [] (by simp [envS, go_sem, wkV, wkL, AV.ids, idsL, keysOf, ren, stoOf, slTrees, AV.asOwn, rowPart, AV.isNil, setL, pst] <;> assumption) (by simp [stoS, go_sem, wkV, wkL, wkO, AV.ids, Ob.ids, idsL, keysOf, ren, AV.one, stoOf, slTrees, AV.asOwn, rowPart, AV.isNil, setL, pst] <;> assumption) (by simp [keysOf, ren]) (by simp [stoOf, keysOf, ren]) (by simp [keysOf, ren]) (by simp [keysOf, ren]))
      · have hpl : plainB c = false := by simp [plainB]; omega
        have d0 : decide (97 ≤ c.toNat) = false := by simp; omega
        have d1 : decide (c.toNat ≤ 122) = true := by simp; omega
        have d2 : decide (65 ≤ c.toNat) = true := by simp; omega
        have d3 : decide (c.toNat ≤ 90) = false := by simp; omega
        have d4 : decide (48 ≤ c.toNat) = true := by simp; omega
        have d5 : decide (c.toNat ≤ 57) = false := by simp; omega
        have d6 : decide (c.toNat = 95) = false := by simp; omega
        have d7 : decide (c.toNat = 45) = false := by simp; omega
        simp only [go_sem, hg, ek, d0, d1, d2, d3, d4, d5, d6, d7, ↓reduceIte, Nat.reduceEqDiff, Nat.reduceAdd, Nat.reduceLeDiff, reduceCtorEq, Int.natCast_nonneg, List.getElem?_map, Int.toNat_natCast, List.length_map, List.replicate_zero, Bool.bne_false, Bool.bne_true, Nat.reduceLT, Int.reduceLT, Int.reduceLE, Int.reduceEq, Int.reduceToNat, List.length_replicate, List.isEmpty_cons, List.isEmpty_nil, Nat.le_refl, Int.le_refl, Int.sub_zero, Int.sub_self, ne_eq, List.length_append, Int.toNat_zero, Nat.zero_mul, Nat.mul_one, Nat.one_mul, Nat.reduceMul]
        refine wends (by first | exact Or.inl rfl | exact Or.inr rfl) ?_ (by first | rfl | simp [AV.ids, idsL])
        simp only [go_sem, r_law09_plain, ↓reduceIte, Nat.reduceEqDiff, Nat.reduceAdd, Nat.reduceLeDiff, reduceCtorEq, Int.natCast_nonneg, List.getElem?_map, Int.toNat_natCast, List.length_map, List.replicate_zero, Bool.bne_false, Bool.bne_true, Nat.reduceLT, Int.reduceLT, Int.reduceLE, Int.reduceEq, Int.reduceToNat, List.length_replicate, List.isEmpty_cons, List.isEmpty_nil, Nat.le_refl, Int.le_refl, Int.sub_zero, Int.sub_self, ne_eq, List.length_append, Int.toNat_zero, Nat.zero_mul, Nat.mul_one, Nat.one_mul, Nat.reduceMul]
        rw [hstop hpl]
      · have hpl : plainB c = true := by simp [plainB]; omega
        have d0 : decide (97 ≤ c.toNat) = true := by simp; omega
        have d1 : decide (c.toNat ≤ 122) = true := by simp; omega
        have d2 : decide (65 ≤ c.toNat) = true := by simp; omega
        have d3 : decide (c.toNat ≤ 90) = false := by simp; omega
        have d4 : decide (48 ≤ c.toNat) = true := by simp; omega
        have d5 : decide (c.toNat ≤ 57) = false := by simp; omega
        have d6 : decide (c.toNat = 95) = false := by simp; omega
        have d7 : decide (c.toNat = 45) = false := by simp; omega
        simp only [go_sem, hg, ek, d0, d1, d2, d3, d4, d5, d6, d7, ↓reduceIte, Nat.reduceEqDiff, Nat.reduceAdd, Nat.reduceLeDiff, reduceCtorEq, Int.natCast_nonneg, List.getElem?_map, Int.toNat_natCast, List.length_map, List.replicate_zero, Bool.bne_false, Bool.bne_true, Nat.reduceLT, Int.reduceLT, Int.reduceLE, Int.reduceEq, Int.reduceToNat, List.length_replicate, List.isEmpty_cons, List.isEmpty_nil, Nat.le_refl, Int.le_refl, Int.sub_zero, Int.sub_self, ne_eq, List.length_append, Int.toNat_zero, Nat.zero_mul, Nat.mul_one, Nat.one_mul, Nat.reduceMul]
        refine rd_of (k + 1) (by first | omega | (simp only; omega)) ⟨by omega, hnext hpl⟩ ?_
        exact (subL [] [] (by simp [envS, go_sem, wkV, wkL, AV.ids, idsL, keysOf, ren, stoOf, slTrees, AV.asOwn, rowPart, AV.isNil, setL, pst] <;> assumption) (by simp [stoS, go_sem, wkV, wkL, wkO, AV.ids, Ob.ids, idsL, keysOf, ren, AV.one, stoOf, slTrees, AV.asOwn, rowPart, AV.isNil, setL, pst] <;> assumption) (by simp [keysOf, ren]) (by simp [stoOf, keysOf, ren]) (by simp [keysOf, ren]) (by simp [keysOf, ren]))
      · have hpl : plainB c = false := by simp [plainB]; omega
        have d0 : decide (97 ≤ c.toNat) = true := by simp; omega
        have d1 : decide (c.toNat ≤ 122) = false := by simp; omega
        have d2 : decide (65 ≤ c.toNat) = true := by simp; omega
        have d3 : decide (c.toNat ≤ 90) = false := by simp; omega
        have d4 : decide (48 ≤ c.toNat) = true := by simp; omega
        have d5 : decide (c.toNat ≤ 57) = false := by simp; omega
        have d6 : decide (c.toNat = 95) = false := by simp; omega
        have d7 : decide (c.toNat = 45) = false := by simp; omega
        simp only [go_sem, hg, ek, d0, d1, d2, d3, d4, d5, d6, d7, ↓reduceIte, Nat.reduceEqDiff, Nat.reduceAdd, Nat.reduceLeDiff, reduceCtorEq, Int.natCast_nonneg, List.getElem?_map, Int.toNat_natCast, List.length_map, List.replicate_zero, Bool.bne_false, Bool.bne_true, Nat.reduceLT, Int.reduceLT, Int.reduceLE, Int.reduceEq, Int.reduceToNat, List.length_replicate, List.isEmpty_cons, List.isEmpty_nil, Nat.le_refl, Int.le_refl, Int.sub_zero, Int.sub_self, ne_eq, List.length_append, Int.toNat_zero, Nat.zero_mul, Nat.mul_one, Nat.one_mul, Nat.reduceMul]
        refine wends (by first | exact Or.inl rfl | exact Or.inr rfl) ?_ (by first | rfl | simp [AV.ids, idsL])
        simp only [go_sem, r_law09_plain, ↓reduceIte, Nat.reduceEqDiff, Nat.reduceAdd, Nat.reduceLeDiff, reduceCtorEq, Int.natCast_nonneg, List.getElem?_map, Int.toNat_natCast, List.length_map, List.replicate_zero, Bool.bne_false, Bool.bne_true, Nat.reduceLT, Int.reduceLT, Int.reduceLE, Int.reduceEq, Int.reduceToNat, List.length_replicate, List.isEmpty_cons, List.isEmpty_nil, Nat.le_refl, Int.le_refl, Int.sub_zero, Int.sub_self, ne_eq, List.length_append, Int.toNat_zero, Nat.zero_mul, Nat.mul_one, Nat.one_mul, Nat.reduceMul]
        rw [hstop hpl]
    · simp at h1
      have e : k = s.size := by omega
      subst e
      simp only [go_sem, ↓reduceIte, Nat.reduceEqDiff, Nat.reduceAdd, Nat.reduceLeDiff, reduceCtorEq, Int.natCast_nonneg, List.getElem?_map, Int.toNat_natCast, List.length_map, List.replicate_zero, Bool.bne_false, Bool.bne_true, Nat.reduceLT, Int.reduceLT, Int.reduceLE, Int.reduceEq, Int.reduceToNat, List.length_replicate, List.isEmpty_cons, List.isEmpty_nil, Nat.le_refl, Int.le_refl, Int.sub_zero, Int.sub_self, ne_eq, List.length_append, Int.toNat_zero, Nat.zero_mul, Nat.mul_one, Nat.one_mul, Nat.reduceMul]
      refine wends (by first | exact Or.inl rfl | exact Or.inr rfl) ?_ (by first | rfl | simp [AV.ids, idsL])
      simp only [go_sem, r_law09_plain, ↓reduceIte, Nat.reduceEqDiff, Nat.reduceAdd, Nat.reduceLeDiff, reduceCtorEq, Int.natCast_nonneg, List.getElem?_map, Int.toNat_natCast, List.length_map, List.replicate_zero, Bool.bne_false, Bool.bne_true, Nat.reduceLT, Int.reduceLT, Int.reduceLE, Int.reduceEq, Int.reduceToNat, List.length_replicate, List.isEmpty_cons, List.isEmpty_nil, Nat.le_refl, Int.le_refl, Int.sub_zero, Int.sub_self, ne_eq, List.length_append, Int.toNat_zero, Nat.zero_mul, Nat.mul_one, Nat.one_mul, Nat.reduceMul]
      rw [← hl, List.take_length] at hp
      rw [List.all_eq_true.2 hp]

theorem f_law09_within (s t : ByteArray) (hs : s.size < 4611686018427387904) (ht : t.size < 9223372036854775808) (b : Bool) (hb : b = true ↔ ∃ j, j + t.data.toList.length ≤ s.data.toList.length ∧ t.data.toList <+: s.data.toList.drop j) : Meets Try.prog E0 n_law09_within [.t (.v (.string s)), .t (.v (.string t))] [] (Bo b) [] := by
  refine m_law09_within (by simp) (shut0 rfl) (shut0 rfl) (by simp) (by simp [keysOf]) ?_
  simp only [go_sem, s_law09_within, ↓reduceIte, Nat.reduceEqDiff, Nat.reduceAdd, Nat.reduceLeDiff, reduceCtorEq, Int.natCast_nonneg, List.getElem?_map, Int.toNat_natCast, List.length_map, List.replicate_zero, Bool.bne_false, Bool.bne_true, Nat.reduceLT, Int.reduceLT, Int.reduceLE, Int.reduceEq, Int.reduceToNat, List.length_replicate, List.isEmpty_cons, List.isEmpty_nil, Nat.le_refl, Int.le_refl, Int.sub_zero, Int.sub_self, ne_eq, List.length_append, Int.toNat_zero, Nat.zero_mul, Nat.mul_one, Nat.one_mul, Nat.reduceMul]
  refine W_loop (fun k : Nat => s.size + 1 - k) (fun k => k ≤ s.size + 1 ∧ ∀ j < k, ¬ (t.data.toList <+: s.data.toList.drop j))
    (fun k => [(0, .t (.v (.string s))), (1, .t (.v (.string t))), (5, I k)]) (fun k => []) 0 (by simp) ?_ ?_
  · exact (subL [] [] (by simp [envS, go_sem, wkV, wkL, AV.ids, idsL, keysOf, ren, stoOf, slTrees, AV.asOwn, rowPart, AV.isNil, setL, pst] <;> assumption) (by simp [stoS, go_sem, wkV, wkL, wkO, AV.ids, Ob.ids, idsL, keysOf, ren, AV.one, stoOf, slTrees, AV.asOwn, rowPart, AV.isNil, setL, pst] <;> assumption) (by simp [keysOf, ren]) (by simp [stoOf, keysOf, ren]) (by simp [keysOf, ren]) (by simp [keysOf, ren]))
  · rintro k ⟨hk, hp⟩
    have hl := ba_len s
    have e1 : IntKind.i64.wrap ((s.size : Int) - (t.size : Int)) = (s.size : Int) - (t.size : Int) := by rw [wrap_i64_of (by omega) (by omega)]
    simp only [go_sem, e1, ↓reduceIte, Nat.reduceEqDiff, Nat.reduceAdd, Nat.reduceLeDiff, reduceCtorEq, Int.natCast_nonneg, List.getElem?_map, Int.toNat_natCast, List.length_map, List.replicate_zero, Bool.bne_false, Bool.bne_true, Nat.reduceLT, Int.reduceLT, Int.reduceLE, Int.reduceEq, Int.reduceToNat, List.length_replicate, List.isEmpty_cons, List.isEmpty_nil, Nat.le_refl, Int.le_refl, Int.sub_zero, Int.sub_self, ne_eq, List.length_append, Int.toNat_zero, Nat.zero_mul, Nat.mul_one, Nat.one_mul, Nat.reduceMul]
    refine W_split rfl (fun h1 => ?_) (fun h1 => ?_)
    · simp at h1
      have e2 : IntKind.i64.wrap ((k : Int) + (t.size : Int)) = ((k + t.size : Nat) : Int) := by rw [wrap_i64_of (by omega) (by omega)]; omega
      have ek : IntKind.i64.wrap ((k : Int) + 1) = ((k + 1 : Nat) : Int) := by rw [wrap_i64_of (by omega) (by omega)]; omega
      have e3 : (k : Int) ≤ ((k + t.size : Nat) : Int) := by omega
      have e4 : ((k + t.size : Nat) : Int) ≤ (s.size : Int) := by omega
      cases hm : decide ((s.extract k (k + t.size)).data.toList = t.data.toList)
      · simp only [go_sem, e2, e3, e4, ek, and_self, str_eql, hm, ↓reduceIte, Nat.reduceEqDiff, Nat.reduceAdd, Nat.reduceLeDiff, reduceCtorEq, Int.natCast_nonneg, List.getElem?_map, Int.toNat_natCast, List.length_map, List.replicate_zero, Bool.bne_false, Bool.bne_true, Nat.reduceLT, Int.reduceLT, Int.reduceLE, Int.reduceEq, Int.reduceToNat, List.length_replicate, List.isEmpty_cons, List.isEmpty_nil, Nat.le_refl, Int.le_refl, Int.sub_zero, Int.sub_self, ne_eq, List.length_append, Int.toNat_zero, Nat.zero_mul, Nat.mul_one, Nat.one_mul, Nat.reduceMul]
        refine rd_of (k + 1) (by first | omega | (simp only; omega)) ⟨by omega, ?_⟩ ?_
        · intro j hj
          by_cases hjk : j = k
          · subst hjk
            intro hpre
            have := of_decide_eq_false hm
            rw [ext_list] at this
            refine this ?_
            rw [← ba_len t]
            exact (List.prefix_iff_eq_take.1 hpre).symm
          · exact hp j (by omega)
        exact (subL [] [] (by simp [envS, go_sem, wkV, wkL, AV.ids, idsL, keysOf, ren, stoOf, slTrees, AV.asOwn, rowPart, AV.isNil, setL, pst] <;> assumption) (by simp [stoS, go_sem, wkV, wkL, wkO, AV.ids, Ob.ids, idsL, keysOf, ren, AV.one, stoOf, slTrees, AV.asOwn, rowPart, AV.isNil, setL, pst] <;> assumption) (by simp [keysOf, ren]) (by simp [stoOf, keysOf, ren]) (by simp [keysOf, ren]) (by simp [keysOf, ren]))
      · simp only [go_sem, e2, e3, e4, ek, and_self, str_eql, hm, ↓reduceIte, Nat.reduceEqDiff, Nat.reduceAdd, Nat.reduceLeDiff, reduceCtorEq, Int.natCast_nonneg, List.getElem?_map, Int.toNat_natCast, List.length_map, List.replicate_zero, Bool.bne_false, Bool.bne_true, Nat.reduceLT, Int.reduceLT, Int.reduceLE, Int.reduceEq, Int.reduceToNat, List.length_replicate, List.isEmpty_cons, List.isEmpty_nil, Nat.le_refl, Int.le_refl, Int.sub_zero, Int.sub_self, ne_eq, List.length_append, Int.toNat_zero, Nat.zero_mul, Nat.mul_one, Nat.one_mul, Nat.reduceMul]
        refine wends (by first | exact Or.inl rfl | exact Or.inr rfl) ?_ (by first | rfl | simp [AV.ids, idsL])
        simp only [go_sem, r_law09_within, ↓reduceIte, Nat.reduceEqDiff, Nat.reduceAdd, Nat.reduceLeDiff, reduceCtorEq, Int.natCast_nonneg, List.getElem?_map, Int.toNat_natCast, List.length_map, List.replicate_zero, Bool.bne_false, Bool.bne_true, Nat.reduceLT, Int.reduceLT, Int.reduceLE, Int.reduceEq, Int.reduceToNat, List.length_replicate, List.isEmpty_cons, List.isEmpty_nil, Nat.le_refl, Int.le_refl, Int.sub_zero, Int.sub_self, ne_eq, List.length_append, Int.toNat_zero, Nat.zero_mul, Nat.mul_one, Nat.one_mul, Nat.reduceMul]
        have hm := of_decide_eq_true hm
        have : b = true := by
          rw [hb]
          have := ba_len t
          rw [ext_list] at hm
          refine ⟨k, by omega, ?_⟩
          rw [List.prefix_iff_eq_take, this]
          exact hm.symm
        rw [this]
    · simp at h1
      simp only [go_sem, ↓reduceIte, Nat.reduceEqDiff, Nat.reduceAdd, Nat.reduceLeDiff, reduceCtorEq, Int.natCast_nonneg, List.getElem?_map, Int.toNat_natCast, List.length_map, List.replicate_zero, Bool.bne_false, Bool.bne_true, Nat.reduceLT, Int.reduceLT, Int.reduceLE, Int.reduceEq, Int.reduceToNat, List.length_replicate, List.isEmpty_cons, List.isEmpty_nil, Nat.le_refl, Int.le_refl, Int.sub_zero, Int.sub_self, ne_eq, List.length_append, Int.toNat_zero, Nat.zero_mul, Nat.mul_one, Nat.one_mul, Nat.reduceMul]
      refine wends (by first | exact Or.inl rfl | exact Or.inr rfl) ?_ (by first | rfl | simp [AV.ids, idsL])
      simp only [go_sem, r_law09_within, ↓reduceIte, Nat.reduceEqDiff, Nat.reduceAdd, Nat.reduceLeDiff, reduceCtorEq, Int.natCast_nonneg, List.getElem?_map, Int.toNat_natCast, List.length_map, List.replicate_zero, Bool.bne_false, Bool.bne_true, Nat.reduceLT, Int.reduceLT, Int.reduceLE, Int.reduceEq, Int.reduceToNat, List.length_replicate, List.isEmpty_cons, List.isEmpty_nil, Nat.le_refl, Int.le_refl, Int.sub_zero, Int.sub_self, ne_eq, List.length_append, Int.toNat_zero, Nat.zero_mul, Nat.mul_one, Nat.one_mul, Nat.reduceMul]
      have : b = false := by
        cases b
        · rfl
        · obtain ⟨j, hj, h⟩ := hb.1 rfl
          have := hp j (by have := ba_len t; omega)
          exact absurd h this
      rw [this]

theorem hat_list (p : ByteArray) : (bs [94] ++ p ++ bs [36]).data.toList = 94 :: (p.data.toList ++ [36]) := by
  simp [bs]

theorem f_law09_NeedleLiteral (p tx : ByteArray) (hp : p.size < 9223372036854775808) : Meets Try.prog E0 n_law09_NeedleLiteral [.t (.v (.string p)), .t (.v (.string tx))] [] (Bo true) [] := by
  refine m_law09_NeedleLiteral (by simp) (shut0 rfl) (shut0 rfl) (by simp) (by simp [keysOf]) ?_
  simp only [go_sem, s_law09_NeedleLiteral, ↓reduceIte, Nat.reduceEqDiff, Nat.reduceAdd, Nat.reduceLeDiff, reduceCtorEq, Int.natCast_nonneg, List.getElem?_map, Int.toNat_natCast, List.length_map, List.replicate_zero, Bool.bne_false, Bool.bne_true, Nat.reduceLT, Int.reduceLT, Int.reduceLE, Int.reduceEq, Int.reduceToNat, List.length_replicate, List.isEmpty_cons, List.isEmpty_nil, Nat.le_refl, Int.le_refl, Int.sub_zero, Int.sub_self, ne_eq, List.length_append, Int.toNat_zero, Nat.zero_mul, Nat.mul_one, Nat.one_mul, Nat.reduceMul]
  refine Cl_plain f_law09_alive ?_
  simp only [go_sem, ↓reduceIte, Nat.reduceEqDiff, Nat.reduceAdd, Nat.reduceLeDiff, reduceCtorEq, Int.natCast_nonneg, List.getElem?_map, Int.toNat_natCast, List.length_map, List.replicate_zero, Bool.bne_false, Bool.bne_true, Nat.reduceLT, Int.reduceLT, Int.reduceLE, Int.reduceEq, Int.reduceToNat, List.length_replicate, List.isEmpty_cons, List.isEmpty_nil, Nat.le_refl, Int.le_refl, Int.sub_zero, Int.sub_self, ne_eq, List.length_append, Int.toNat_zero, Nat.zero_mul, Nat.mul_one, Nat.one_mul, Nat.reduceMul]
  refine Cl_plain (f_law09_plain p hp) ?_
  have hl := ba_len p
  cases h : p.data.toList.all plainB
  · simp only [go_sem, ↓reduceIte, Nat.reduceEqDiff, Nat.reduceAdd, Nat.reduceLeDiff, reduceCtorEq, Int.natCast_nonneg, List.getElem?_map, Int.toNat_natCast, List.length_map, List.replicate_zero, Bool.bne_false, Bool.bne_true, Nat.reduceLT, Int.reduceLT, Int.reduceLE, Int.reduceEq, Int.reduceToNat, List.length_replicate, List.isEmpty_cons, List.isEmpty_nil, Nat.le_refl, Int.le_refl, Int.sub_zero, Int.sub_self, ne_eq, List.length_append, Int.toNat_zero, Nat.zero_mul, Nat.mul_one, Nat.one_mul, Nat.reduceMul]
    refine wends (by first | exact Or.inl rfl | exact Or.inr rfl) ?_ (by first | rfl | simp [AV.ids, idsL])
    simp only [go_sem, r_law09_NeedleLiteral, ↓reduceIte, Nat.reduceEqDiff, Nat.reduceAdd, Nat.reduceLeDiff, reduceCtorEq, Int.natCast_nonneg, List.getElem?_map, Int.toNat_natCast, List.length_map, List.replicate_zero, Bool.bne_false, Bool.bne_true, Nat.reduceLT, Int.reduceLT, Int.reduceLE, Int.reduceEq, Int.reduceToNat, List.length_replicate, List.isEmpty_cons, List.isEmpty_nil, Nat.le_refl, Int.le_refl, Int.sub_zero, Int.sub_self, ne_eq, List.length_append, Int.toNat_zero, Nat.zero_mul, Nat.mul_one, Nat.one_mul, Nat.reduceMul]
  · have h := List.all_eq_true.1 h
    simp only [go_sem, ↓reduceIte, Nat.reduceEqDiff, Nat.reduceAdd, Nat.reduceLeDiff, reduceCtorEq, Int.natCast_nonneg, List.getElem?_map, Int.toNat_natCast, List.length_map, List.replicate_zero, Bool.bne_false, Bool.bne_true, Nat.reduceLT, Int.reduceLT, Int.reduceLE, Int.reduceEq, Int.reduceToNat, List.length_replicate, List.isEmpty_cons, List.isEmpty_nil, Nat.le_refl, Int.le_refl, Int.sub_zero, Int.sub_self, ne_eq, List.length_append, Int.toNat_zero, Nat.zero_mul, Nat.mul_one, Nat.one_mul, Nat.reduceMul]
    cases h1 : decide ((62 : Int) < (p.size : Int))
    · have q1 := of_decide_eq_false h1
      simp only [go_sem, h1, ↓reduceIte, Nat.reduceEqDiff, Nat.reduceAdd, Nat.reduceLeDiff, reduceCtorEq, Int.natCast_nonneg, List.getElem?_map, Int.toNat_natCast, List.length_map, List.replicate_zero, Bool.bne_false, Bool.bne_true, Nat.reduceLT, Int.reduceLT, Int.reduceLE, Int.reduceEq, Int.reduceToNat, List.length_replicate, List.isEmpty_cons, List.isEmpty_nil, Nat.le_refl, Int.le_refl, Int.sub_zero, Int.sub_self, ne_eq, List.length_append, Int.toNat_zero, Nat.zero_mul, Nat.mul_one, Nat.one_mul, Nat.reduceMul]
      refine Cl_plain (f_law09_great tx) ?_
      cases h2 : decide (500 < tx.size)
      · have q2 := of_decide_eq_false h2
        have e1 := comp_plain p.data.toList h (by omega)
        have e2 := comp_plain_end p.data.toList h (by omega)
        simp only [go_sem, ↓reduceIte, Nat.reduceEqDiff, Nat.reduceAdd, Nat.reduceLeDiff, reduceCtorEq, Int.natCast_nonneg, List.getElem?_map, Int.toNat_natCast, List.length_map, List.replicate_zero, Bool.bne_false, Bool.bne_true, Nat.reduceLT, Int.reduceLT, Int.reduceLE, Int.reduceEq, Int.reduceToNat, List.length_replicate, List.isEmpty_cons, List.isEmpty_nil, Nat.le_refl, Int.le_refl, Int.sub_zero, Int.sub_self, ne_eq, List.length_append, Int.toNat_zero, Nat.zero_mul, Nat.mul_one, Nat.one_mul, Nat.reduceMul]
        refine Cl_plain (f_needle_Match p tx (by omega) (by omega)) ?_
        rw [e1]
        have s1 : binStr .add (bs [94]) p = some (.string (bs [94] ++ p)) := str_add (by have : (bs [94]).size = 1 := rfl; omega)
        have z1 : (bs [94] ++ p).size = 1 + p.size := by rw [ByteArray.size_append]; rfl
        have s2 : binStr .add (bs [94] ++ p) (bs [36]) = some (.string (bs [94] ++ p ++ bs [36])) := str_add (by have : (bs [36]).size = 1 := rfl; omega)
        have z2 : (bs [94] ++ p ++ bs [36]).size = 1 + p.size + 1 := by rw [ByteArray.size_append, z1]; rfl
        simp only [go_sem, s1, s2, ↓reduceIte, Nat.reduceEqDiff, Nat.reduceAdd, Nat.reduceLeDiff, reduceCtorEq, Int.natCast_nonneg, List.getElem?_map, Int.toNat_natCast, List.length_map, List.replicate_zero, Bool.bne_false, Bool.bne_true, Nat.reduceLT, Int.reduceLT, Int.reduceLE, Int.reduceEq, Int.reduceToNat, List.length_replicate, List.isEmpty_cons, List.isEmpty_nil, Nat.le_refl, Int.le_refl, Int.sub_zero, Int.sub_self, ne_eq, List.length_append, Int.toNat_zero, Nat.zero_mul, Nat.mul_one, Nat.one_mul, Nat.reduceMul]
        refine Cl_plain (f_needle_Match (bs [94] ++ p ++ bs [36]) tx (by omega) (by omega)) ?_
        rw [hat_list, e2]
        simp only [go_sem, ↓reduceIte, Nat.reduceEqDiff, Nat.reduceAdd, Nat.reduceLeDiff, reduceCtorEq, Int.natCast_nonneg, List.getElem?_map, Int.toNat_natCast, List.length_map, List.replicate_zero, Bool.bne_false, Bool.bne_true, Nat.reduceLT, Int.reduceLT, Int.reduceLE, Int.reduceEq, Int.reduceToNat, List.length_replicate, List.isEmpty_cons, List.isEmpty_nil, Nat.le_refl, Int.le_refl, Int.sub_zero, Int.sub_self, ne_eq, List.length_append, Int.toNat_zero, Nat.zero_mul, Nat.mul_one, Nat.one_mul, Nat.reduceMul]
        refine Cl_plain (f_law09_within tx p (by omega) hp (foundM false false (p.data.toList.map lit) tx.data.toList) (found_lit _ _)) ?_
        have e3 : foundM true true (p.data.toList.map lit) tx.data.toList = decide (tx.data.toList = p.data.toList) := by
          rw [Bool.eq_iff_iff, found_lit_all, decide_eq_true_iff]
        rw [e3]
        simp only [go_sem, str_eql, beq_self_eq_true, ↓reduceIte, Nat.reduceEqDiff, Nat.reduceAdd, Nat.reduceLeDiff, reduceCtorEq, Int.natCast_nonneg, List.getElem?_map, Int.toNat_natCast, List.length_map, List.replicate_zero, Bool.bne_false, Bool.bne_true, Nat.reduceLT, Int.reduceLT, Int.reduceLE, Int.reduceEq, Int.reduceToNat, List.length_replicate, List.isEmpty_cons, List.isEmpty_nil, Nat.le_refl, Int.le_refl, Int.sub_zero, Int.sub_self, ne_eq, List.length_append, Int.toNat_zero, Nat.zero_mul, Nat.mul_one, Nat.one_mul, Nat.reduceMul]
        refine wends (by first | exact Or.inl rfl | exact Or.inr rfl) ?_ (by first | rfl | simp [AV.ids, idsL])
        simp only [go_sem, r_law09_NeedleLiteral, ↓reduceIte, Nat.reduceEqDiff, Nat.reduceAdd, Nat.reduceLeDiff, reduceCtorEq, Int.natCast_nonneg, List.getElem?_map, Int.toNat_natCast, List.length_map, List.replicate_zero, Bool.bne_false, Bool.bne_true, Nat.reduceLT, Int.reduceLT, Int.reduceLE, Int.reduceEq, Int.reduceToNat, List.length_replicate, List.isEmpty_cons, List.isEmpty_nil, Nat.le_refl, Int.le_refl, Int.sub_zero, Int.sub_self, ne_eq, List.length_append, Int.toNat_zero, Nat.zero_mul, Nat.mul_one, Nat.one_mul, Nat.reduceMul]
      · simp only [go_sem, ↓reduceIte, Nat.reduceEqDiff, Nat.reduceAdd, Nat.reduceLeDiff, reduceCtorEq, Int.natCast_nonneg, List.getElem?_map, Int.toNat_natCast, List.length_map, List.replicate_zero, Bool.bne_false, Bool.bne_true, Nat.reduceLT, Int.reduceLT, Int.reduceLE, Int.reduceEq, Int.reduceToNat, List.length_replicate, List.isEmpty_cons, List.isEmpty_nil, Nat.le_refl, Int.le_refl, Int.sub_zero, Int.sub_self, ne_eq, List.length_append, Int.toNat_zero, Nat.zero_mul, Nat.mul_one, Nat.one_mul, Nat.reduceMul]
        refine wends (by first | exact Or.inl rfl | exact Or.inr rfl) ?_ (by first | rfl | simp [AV.ids, idsL])
        simp only [go_sem, r_law09_NeedleLiteral, ↓reduceIte, Nat.reduceEqDiff, Nat.reduceAdd, Nat.reduceLeDiff, reduceCtorEq, Int.natCast_nonneg, List.getElem?_map, Int.toNat_natCast, List.length_map, List.replicate_zero, Bool.bne_false, Bool.bne_true, Nat.reduceLT, Int.reduceLT, Int.reduceLE, Int.reduceEq, Int.reduceToNat, List.length_replicate, List.isEmpty_cons, List.isEmpty_nil, Nat.le_refl, Int.le_refl, Int.sub_zero, Int.sub_self, ne_eq, List.length_append, Int.toNat_zero, Nat.zero_mul, Nat.mul_one, Nat.one_mul, Nat.reduceMul]
    · simp only [go_sem, h1, ↓reduceIte, Nat.reduceEqDiff, Nat.reduceAdd, Nat.reduceLeDiff, reduceCtorEq, Int.natCast_nonneg, List.getElem?_map, Int.toNat_natCast, List.length_map, List.replicate_zero, Bool.bne_false, Bool.bne_true, Nat.reduceLT, Int.reduceLT, Int.reduceLE, Int.reduceEq, Int.reduceToNat, List.length_replicate, List.isEmpty_cons, List.isEmpty_nil, Nat.le_refl, Int.le_refl, Int.sub_zero, Int.sub_self, ne_eq, List.length_append, Int.toNat_zero, Nat.zero_mul, Nat.mul_one, Nat.one_mul, Nat.reduceMul]
      refine wends (by first | exact Or.inl rfl | exact Or.inr rfl) ?_ (by first | rfl | simp [AV.ids, idsL])
      simp only [go_sem, r_law09_NeedleLiteral, ↓reduceIte, Nat.reduceEqDiff, Nat.reduceAdd, Nat.reduceLeDiff, reduceCtorEq, Int.natCast_nonneg, List.getElem?_map, Int.toNat_natCast, List.length_map, List.replicate_zero, Bool.bne_false, Bool.bne_true, Nat.reduceLT, Int.reduceLT, Int.reduceLE, Int.reduceEq, Int.reduceToNat, List.length_replicate, List.isEmpty_cons, List.isEmpty_nil, Nat.le_refl, Int.le_refl, Int.sub_zero, Int.sub_self, ne_eq, List.length_append, Int.toNat_zero, Nat.zero_mul, Nat.mul_one, Nat.one_mul, Nat.reduceMul]

end Go.Proofs.Ytgnokggmbkhnbaa
