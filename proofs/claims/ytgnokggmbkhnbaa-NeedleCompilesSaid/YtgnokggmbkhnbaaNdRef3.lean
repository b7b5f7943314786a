/- Contract of the plain reader of classes. No statement of the seat is proved here. -/
import Derived.Test.YtgnokggmbkhnbaaNdRef2
set_option linter.unusedSimpArgs false
set_option linter.unusedVariables false
namespace Go.Proofs.Ytgnokggmbkhnbaa
open Go Go.Sx

theorem bools_wk (sto : Nat → Option Ob) (sn : List Nat) (f : Nat → Nat) (g : Nat → Bool) : ∀ l : List Nat, wkL sto sn f (l.map fun i => Bo (g i)) (l.map fun i => Bo (g i))
  | [] => by simp only [List.map_nil, wkL]
  | _ :: l => by
    simp only [List.map_cons, wkL]
    exact ⟨by simp only [wkV], bools_wk sto sn f g l⟩

theorem bits_wk (sto : Nat → Option Ob) (sn : List Nat) (f : Nat → Nat) (n : Nat) : wkL sto sn f (bitsL n) (bitsL n) := bools_wk sto sn f _ _

theorem bits_all (n : Nat) : (bitsL n).all AV.one = true := by
  rw [List.all_eq_true]
  intro x hx
  obtain ⟨i, _, rfl⟩ := List.mem_map.1 hx
  rfl

theorem bits_len (n : Nat) : (bitsL n).length = 256 := by rw [bitsL, List.length_map, List.length_range]

theorem bits_put (n i : Nat) (h : i < 256) : List.take i (bitsL n) ++ [Bo true] ++ List.drop (i + 1) (bitsL n) = bitsL (n ||| 2 ^ i) := by
  rw [← bits_set n i h, List.set_eq_take_append_cons_drop, if_pos (by rw [bits_len]; exact h), List.append_assoc]
  rfl

theorem bools_ids (g : Nat → Bool) : ∀ l : List Nat, idsL (l.map fun i => Bo (g i)) = []
  | [] => rfl
  | _ :: l => by
    simp only [List.map_cons, idsL, AV.ids, List.nil_append]
    exact bools_ids g l

theorem bits_ids (n : Nat) : idsL (bitsL n) = [] := bools_ids _ _

set_option maxRecDepth 20000 in
set_option maxHeartbeats 8000000 in
theorem f_ref09_class (s : ByteArray) (rest : List UInt8) (h : Suf s rest) (hs : s.size < 4611686018427387904) : Meets Try.prog E0 n_ref09_class [.t (.v (.string s)), I ((s.size - rest.length : Nat) : Int)] [] (.tp [itemV (if (classM rest).2.1 then (classM rest).1 else 0, false), I ((if (classM rest).2.1 then s.size - (classM rest).2.2.length else 0 : Nat) : Int), Bo (classM rest).2.1]) [] := by
  refine m_ref09_class (by simp) (shut0 rfl) (shut0 rfl) (by simp) (by simp [keysOf]) ?_
  have hl := h.len
  have hsl := ba_len s
  have hsuf : Suf s (skipM 94 rest).2 := (skip_suf 94 rest).trans h
  simp only [s_ref09_class]
  rw [lit256]
  have hb0 : (List.replicate 256 (T.v (.bool false))).map AV.t = bitsL 0 := by rw [← bits_zero, List.map_replicate]
  have hcs : (rest = [] ∧ skipM 94 rest = (false, [])) ∨ (∃ c r, rest = c :: r ∧ decide (c.toNat = 94) = false ∧ skipM 94 rest = (false, c :: r)) ∨ (∃ c r, rest = c :: r ∧ decide (c.toNat = 94) = true ∧ skipM 94 rest = (true, r)) := by
    cases rest with
    | nil => exact Or.inl ⟨rfl, rfl⟩
    | cons c r =>
      right
      by_cases e : c.toNat = 94
      · exact Or.inr ⟨c, r, rfl, by simp [e], by simp [skipM, e]⟩
      · exact Or.inl ⟨c, r, rfl, by simp [e], by simp [skipM, e]⟩
  unfold classM
  generalize hsk : skipM 94 rest = sk at *
  generalize hx : classX sk.2 false 0 = x
  have hxl : x.1 < 2 ^ 256 := by rw [← hx]; exact classX_lt _ _ _ _ (Nat.le_refl _) (Nat.two_pow_pos _)
  rcases hcs with ⟨rfl, hk⟩ | ⟨c, r, rfl, hc, hk⟩ | ⟨c, r, rfl, hc, hk⟩
  case' inl =>
    have d0 : decide (s.size < s.size) = false := by simp
    simp only [go_sem, hb0, d0, List.length_nil, Nat.sub_zero, ↓reduceIte, Nat.reduceEqDiff, Nat.reduceAdd, Nat.reduceLeDiff, reduceCtorEq, Int.natCast_nonneg, List.getElem?_map, Int.toNat_natCast, List.length_map, List.replicate_zero, Bool.bne_false, Bool.bne_true, Nat.reduceLT, Int.reduceLT, Int.reduceLE, Int.reduceEq, Int.reduceToNat, List.length_replicate, List.isEmpty_cons, List.isEmpty_nil, Nat.le_refl, Int.le_refl, Int.sub_zero, Int.sub_self, ne_eq, List.length_append, Int.toNat_zero, Nat.zero_mul, Nat.mul_one, Nat.one_mul, Nat.reduceMul]
  case' inr.inl =>
    have hg := h.get 0
    simp only [List.length_cons, Nat.add_zero, List.getElem?_cons_zero] at hg hl
    have d0 : decide (s.size - (r.length + 1) < s.size) = true := by simp; omega
    simp only [go_sem, hb0, hg, hc, d0, ↓reduceIte, Nat.reduceEqDiff, Nat.reduceAdd, Nat.reduceLeDiff, reduceCtorEq, Int.natCast_nonneg, List.getElem?_map, Int.toNat_natCast, List.length_map, List.replicate_zero, Bool.bne_false, Bool.bne_true, Nat.reduceLT, Int.reduceLT, Int.reduceLE, Int.reduceEq, Int.reduceToNat, List.length_replicate, List.isEmpty_cons, List.isEmpty_nil, Nat.le_refl, Int.le_refl, Int.sub_zero, Int.sub_self, ne_eq, List.length_append, Int.toNat_zero, Nat.zero_mul, Nat.mul_one, Nat.one_mul, Nat.reduceMul]
  case' inr.inr =>
    have hg := h.get 0
    simp only [List.length_cons, Nat.add_zero, List.getElem?_cons_zero] at hg hl
    have d0 : decide (s.size - (r.length + 1) < s.size) = true := by simp; omega
    have e1 : IntKind.i64.wrap (((s.size - (r.length + 1) : Nat) : Int) + 1) = ((s.size - r.length : Nat) : Int) := by rw [wrap_i64_of (by omega) (by omega)]; omega
    simp only [go_sem, hb0, hg, hc, d0, e1, ↓reduceIte, Nat.reduceEqDiff, Nat.reduceAdd, Nat.reduceLeDiff, reduceCtorEq, Int.natCast_nonneg, List.getElem?_map, Int.toNat_natCast, List.length_map, List.replicate_zero, Bool.bne_false, Bool.bne_true, Nat.reduceLT, Int.reduceLT, Int.reduceLE, Int.reduceEq, Int.reduceToNat, List.length_replicate, List.isEmpty_cons, List.isEmpty_nil, Nat.le_refl, Int.le_refl, Int.sub_zero, Int.sub_self, ne_eq, List.length_append, Int.toNat_zero, Nat.zero_mul, Nat.mul_one, Nat.one_mul, Nat.reduceMul]
  all_goals
    refine W_loop (fun i : List UInt8 × Nat × Nat => i.1.length) (fun i => Suf s i.1 ∧ i.2.1 + i.1.length ≤ s.size ∧ i.2.2 < 2 ^ 256 ∧ classX i.1 (decide (0 < i.2.1)) i.2.2 = x)
      (fun i => [(0, .t (.v (.string s))), (1, I ((s.size - i.1.length : Nat) : Int)), (4, .ptr 100 0), (5, I 0), (6, Bo false), (7, .ptr 103 0), (8, Bo sk.1), (9, I i.2.1)])
      (fun i => [(100, .box (setL 0 ++ [Bo false])), (103, .box (bitsL i.2.2))])
      (sk.2, 0, 0) ⟨hsuf, by have := hsuf.len; simpa using this, Nat.two_pow_pos _, by simpa using hx⟩ ?_ ?_
    · subst hk
      dsimp only at *
      exact (subL [] [] (by simp [envS, go_sem, wkV, wkL, AV.ids, idsL, keysOf, ren, stoOf, slTrees, AV.asOwn, rowPart, AV.isNil, setL, pst, bits_wk, bits_all, bits_ids] <;> assumption) (by simp [stoS, go_sem, wkV, wkL, wkO, AV.ids, Ob.ids, idsL, keysOf, ren, AV.one, stoOf, slTrees, AV.asOwn, rowPart, AV.isNil, setL, pst, bits_wk, bits_all, bits_ids] <;> assumption) (by simp [keysOf, ren]) (by simp [stoOf, keysOf, ren]) (by simp [keysOf, ren]) (by simp [keysOf, ren]))
    · clear hk
      rintro ⟨l, k, n⟩ ⟨hl, hk, hn, hr⟩
      simp only at hl hk hn hr
      have hlen := hl.len
      cases l with
      | nil =>
        simp only [classX] at hr
        subst hr
        have d0 : decide (s.size < s.size) = false := by simp
        simp only [go_sem, d0, List.length_nil, Nat.sub_zero, Nat.le_refl, decide_true, s_ref09_class_b2, s_ref09_class_t5, ↓reduceIte, Nat.reduceEqDiff, Nat.reduceAdd, Nat.reduceLeDiff, reduceCtorEq, Int.natCast_nonneg, List.getElem?_map, Int.toNat_natCast, List.length_map, List.replicate_zero, Bool.bne_false, Bool.bne_true, Nat.reduceLT, Int.reduceLT, Int.reduceLE, Int.reduceEq, Int.reduceToNat, List.length_replicate, List.isEmpty_cons, List.isEmpty_nil, Nat.le_refl, Int.le_refl, Int.sub_zero, Int.sub_self, ne_eq, List.length_append, Int.toNat_zero, Nat.zero_mul, Nat.mul_one, Nat.one_mul, Nat.reduceMul]
        refine wends (by first | exact Or.inl rfl | exact Or.inr rfl) ?_ (by first | rfl | simp [AV.ids, idsL])
        simp only [go_sem, r_ref09_class, ↓reduceIte, Nat.reduceEqDiff, Nat.reduceAdd, Nat.reduceLeDiff, reduceCtorEq, Int.natCast_nonneg, List.getElem?_map, Int.toNat_natCast, List.length_map, List.replicate_zero, Bool.bne_false, Bool.bne_true, Nat.reduceLT, Int.reduceLT, Int.reduceLE, Int.reduceEq, Int.reduceToNat, List.length_replicate, List.isEmpty_cons, List.isEmpty_nil, Nat.le_refl, Int.le_refl, Int.sub_zero, Int.sub_self, ne_eq, List.length_append, Int.toNat_zero, Nat.zero_mul, Nat.mul_one, Nat.one_mul, Nat.reduceMul]
        simp
      | cons c r =>
        have hc := u8_lt c
        have hlr : Suf s r := hl.tail
        simp only [List.length_cons] at hk hlen
        have g0 := hl.get 0
        simp only [List.length_cons, Nat.add_zero, List.getElem?_cons_zero] at g0
        have d0 : decide (s.size - (r.length + 1) < s.size) = true := by simp; omega
        have w2 : IntKind.i64.wrap ((s.size : Int) - 2) = (s.size : Int) - 2 := by rw [wrap_i64_of (by omega) (by omega)]
        cases h93 : decide (c.toNat = 93)
        · have q93 := of_decide_eq_false h93
          have wc : IntKind.i64.wrap (c.toNat : Int) = (c.toNat : Int) := by rw [wrap_i64_of (by omega) (by omega)]
          have dcc : decide (c.toNat < c.toNat) = false := by simp
          have one : rangedB r = false → classX r true (addM n c.toNat 1) = x := fun hrg => by
            rw [classX_one c r _ n q93 hrg, show n ||| 2 ^ c.toNat = addM n c.toNat 1 from rfl] at hr
            exact hr
          rcases (show r.length < 2 ∨ 2 ≤ r.length from by omega) with hr2 | hr2
          · have d1 : decide (((s.size - (r.length + 1) : Nat) : Int) < (s.size : Int) - 2) = false := by simp; omega
            have hrg : rangedB r = false := by
              match r, hr2 with
              | [], _ => rfl
              | [_], _ => rfl
            have hr := one hrg
            simp only [go_sem, s_ref09_class_b2, d0, g0, h93, w2, d1, dcc, wc, Bool.not_false, ↓reduceIte, Nat.reduceEqDiff, Nat.reduceAdd, Nat.reduceLeDiff, reduceCtorEq, Int.natCast_nonneg, List.getElem?_map, Int.toNat_natCast, List.length_map, List.replicate_zero, Bool.bne_false, Bool.bne_true, Nat.reduceLT, Int.reduceLT, Int.reduceLE, Int.reduceEq, Int.reduceToNat, List.length_replicate, List.isEmpty_cons, List.isEmpty_nil, Nat.le_refl, Int.le_refl, Int.sub_zero, Int.sub_self, ne_eq, List.length_append, Int.toNat_zero, Nat.zero_mul, Nat.mul_one, Nat.one_mul, Nat.reduceMul]
            refine W_loop (fun j : Nat => c.toNat + 1 - c.toNat - j) (fun j => c.toNat + j ≤ c.toNat + 1)
              (fun j => [(0, .t (.v (.string s))), (1, I ((s.size - (r.length + 1) : Nat) : Int)), (4, .ptr 100 0), (5, I 0), (6, Bo false), (7, .ptr 103 0), (8, Bo sk.1), (9, I k), (11, U8 c.toNat), (12, I ((c.toNat + j : Nat) : Int))])
              (fun j => [(100, .box (setL 0 ++ [Bo false])), (103, .box (bitsL (addM n c.toNat j)))]) 0 (by omega) ?_ ?_
            · rw [show addM n c.toNat 0 = n from rfl]
              exact (subL [] [] (by simp [envS, go_sem, wkV, wkL, AV.ids, idsL, keysOf, ren, stoOf, slTrees, AV.asOwn, rowPart, AV.isNil, setL, pst, bits_wk, bits_all, bits_ids] <;> assumption) (by simp [stoS, go_sem, wkV, wkL, wkO, AV.ids, Ob.ids, idsL, keysOf, ren, AV.one, stoOf, slTrees, AV.asOwn, rowPart, AV.isNil, setL, pst, bits_wk, bits_all, bits_ids] <;> assumption) (by simp [keysOf, ren]) (by simp [stoOf, keysOf, ren]) (by simp [keysOf, ren]) (by simp [keysOf, ren]))
            · intro j hj
              simp only [go_sem, s_ref09_class_b0, wc, ↓reduceIte, Nat.reduceEqDiff, Nat.reduceAdd, Nat.reduceLeDiff, reduceCtorEq, Int.natCast_nonneg, List.getElem?_map, Int.toNat_natCast, List.length_map, List.replicate_zero, Bool.bne_false, Bool.bne_true, Nat.reduceLT, Int.reduceLT, Int.reduceLE, Int.reduceEq, Int.reduceToNat, List.length_replicate, List.isEmpty_cons, List.isEmpty_nil, Nat.le_refl, Int.le_refl, Int.sub_zero, Int.sub_self, ne_eq, List.length_append, Int.toNat_zero, Nat.zero_mul, Nat.mul_one, Nat.one_mul, Nat.reduceMul]
              refine W_split rfl (fun h1 => ?_) (fun h1 => ?_)
              · simp at h1
                have q1 : ((c.toNat + j : Nat) : Int) < ((256 : Nat) : Int) := by omega
                have q2 : c.toNat + j + 1 ≤ 256 := by omega
                have ej : IntKind.i64.wrap (((c.toNat + j : Nat) : Int) + 1) = ((c.toNat + (j + 1) : Nat) : Int) := by rw [wrap_i64_of (by omega) (by omega)]; omega
                have hput := bits_put (addM n c.toNat j) (c.toNat + j) (by omega)
                simp only [go_sem, q1, q2, ej, bits_len, hput, ↓reduceIte, Nat.reduceEqDiff, Nat.reduceAdd, Nat.reduceLeDiff, reduceCtorEq, Int.natCast_nonneg, List.getElem?_map, Int.toNat_natCast, List.length_map, List.replicate_zero, Bool.bne_false, Bool.bne_true, Nat.reduceLT, Int.reduceLT, Int.reduceLE, Int.reduceEq, Int.reduceToNat, List.length_replicate, List.isEmpty_cons, List.isEmpty_nil, Nat.le_refl, Int.le_refl, Int.sub_zero, Int.sub_self, ne_eq, List.length_append, Int.toNat_zero, Nat.zero_mul, Nat.mul_one, Nat.one_mul, Nat.reduceMul]
                refine rd_of (j + 1) (by first | omega | (simp only; omega)) (by first | omega | (simp only; omega)) ?_
                rw [addM_snoc]
                exact (subL [] [] (by simp [envS, go_sem, wkV, wkL, AV.ids, idsL, keysOf, ren, stoOf, slTrees, AV.asOwn, rowPart, AV.isNil, setL, pst, bits_wk, bits_all, bits_ids] <;> assumption) (by simp [stoS, go_sem, wkV, wkL, wkO, AV.ids, Ob.ids, idsL, keysOf, ren, AV.one, stoOf, slTrees, AV.asOwn, rowPart, AV.isNil, setL, pst, bits_wk, bits_all, bits_ids] <;> assumption) (by simp [keysOf, ren]) (by simp [stoOf, keysOf, ren]) (by simp [keysOf, ren]) (by simp [keysOf, ren]))
              · simp at h1
                have ej : j = c.toNat + 1 - c.toNat := by omega
                subst ej
                have ea : IntKind.i64.wrap (((s.size - (r.length + 1) : Nat) : Int) + 1) = ((s.size - r.length : Nat) : Int) := by rw [wrap_i64_of (by omega) (by omega)]; omega
                have ek : IntKind.i64.wrap ((k : Int) + 1) = ((k + 1 : Nat) : Int) := by rw [wrap_i64_of (by omega) (by omega)]; omega
                simp only [go_sem, s_ref09_class_t1, ea, ek, ↓reduceIte, Nat.reduceEqDiff, Nat.reduceAdd, Nat.reduceLeDiff, reduceCtorEq, Int.natCast_nonneg, List.getElem?_map, Int.toNat_natCast, List.length_map, List.replicate_zero, Bool.bne_false, Bool.bne_true, Nat.reduceLT, Int.reduceLT, Int.reduceLE, Int.reduceEq, Int.reduceToNat, List.length_replicate, List.isEmpty_cons, List.isEmpty_nil, Nat.le_refl, Int.le_refl, Int.sub_zero, Int.sub_self, ne_eq, List.length_append, Int.toNat_zero, Nat.zero_mul, Nat.mul_one, Nat.one_mul, Nat.reduceMul]
                refine rd_of (r, k + 1, addM n c.toNat (c.toNat + 1 - c.toNat)) (by simp; try omega) ⟨hlr, by simp only; omega, addM_lt _ _ _ hn (by omega), by rw [Nat.add_sub_cancel_left]; simpa using hr⟩ ?_
                exact (subL [] [] (by simp [envS, go_sem, wkV, wkL, AV.ids, idsL, keysOf, ren, stoOf, slTrees, AV.asOwn, rowPart, AV.isNil, setL, pst, bits_wk, bits_all, bits_ids] <;> assumption) (by simp [stoS, go_sem, wkV, wkL, wkO, AV.ids, Ob.ids, idsL, keysOf, ren, AV.one, stoOf, slTrees, AV.asOwn, rowPart, AV.isNil, setL, pst, bits_wk, bits_all, bits_ids] <;> assumption) (by simp [keysOf, ren]) (by simp [stoOf, keysOf, ren]) (by simp [keysOf, ren]) (by simp [keysOf, ren]))
          · obtain ⟨d, x2, r', rfl⟩ : ∃ d x2 r', r = d :: x2 :: r' := by
              match r, hr2 with
              | d :: x2 :: r', _ => exact ⟨d, x2, r', rfl⟩
            have hlc : (d :: x2 :: r').length = r'.length + 2 := rfl
            have g1 := hl.get 1
            have g2 := hl.get 2
            simp only [List.length_cons, List.getElem?_cons_succ, List.getElem?_cons_zero] at g0 g1 g2 d0 hlen hk hr2
            have d1 : decide (((s.size - (r'.length + 1 + 1 + 1) : Nat) : Int) < (s.size : Int) - 2) = true := by simp; omega
            have e1 : IntKind.i64.wrap (((s.size - (r'.length + 1 + 1 + 1) : Nat) : Int) + 1) = ((s.size - (r'.length + 1 + 1 + 1) + 1 : Nat) : Int) := by rw [wrap_i64_of (by omega) (by omega)]; omega
            have e2 : IntKind.i64.wrap (((s.size - (r'.length + 1 + 1 + 1) : Nat) : Int) + 2) = ((s.size - (r'.length + 1 + 1 + 1) + 2 : Nat) : Int) := by rw [wrap_i64_of (by omega) (by omega)]; omega
            have wx : IntKind.i64.wrap (x2.toNat : Int) = (x2.toNat : Int) := by have := u8_lt x2; rw [wrap_i64_of (by omega) (by omega)]
            have hx2 := u8_lt x2
            cases hd : decide (d.toNat = 45)
            · have qd := of_decide_eq_false hd
              have hr := one (by simp [rangedB, qd])
              simp only [go_sem, s_ref09_class_b2, List.length_cons, d0, g0, g1, g2, e1, e2, hd, h93, w2, d1, dcc, wc, Bool.not_false, ↓reduceIte, Nat.reduceEqDiff, Nat.reduceAdd, Nat.reduceLeDiff, reduceCtorEq, Int.natCast_nonneg, List.getElem?_map, Int.toNat_natCast, List.length_map, List.replicate_zero, Bool.bne_false, Bool.bne_true, Nat.reduceLT, Int.reduceLT, Int.reduceLE, Int.reduceEq, Int.reduceToNat, List.length_replicate, List.isEmpty_cons, List.isEmpty_nil, Nat.le_refl, Int.le_refl, Int.sub_zero, Int.sub_self, ne_eq, List.length_append, Int.toNat_zero, Nat.zero_mul, Nat.mul_one, Nat.one_mul, Nat.reduceMul]
              refine W_loop (fun j : Nat => c.toNat + 1 - c.toNat - j) (fun j => c.toNat + j ≤ c.toNat + 1)
                (fun j => [(0, .t (.v (.string s))), (1, I ((s.size - ((d :: x2 :: r').length + 1) : Nat) : Int)), (4, .ptr 100 0), (5, I 0), (6, Bo false), (7, .ptr 103 0), (8, Bo sk.1), (9, I k), (11, U8 c.toNat), (12, I ((c.toNat + j : Nat) : Int))])
                (fun j => [(100, .box (setL 0 ++ [Bo false])), (103, .box (bitsL (addM n c.toNat j)))]) 0 (by omega) ?_ ?_
              · rw [show addM n c.toNat 0 = n from rfl]
                exact (subL [] [] (by simp [envS, go_sem, wkV, wkL, AV.ids, idsL, keysOf, ren, stoOf, slTrees, AV.asOwn, rowPart, AV.isNil, setL, pst, bits_wk, bits_all, bits_ids] <;> assumption) (by simp [stoS, go_sem, wkV, wkL, wkO, AV.ids, Ob.ids, idsL, keysOf, ren, AV.one, stoOf, slTrees, AV.asOwn, rowPart, AV.isNil, setL, pst, bits_wk, bits_all, bits_ids] <;> assumption) (by simp [keysOf, ren]) (by simp [stoOf, keysOf, ren]) (by simp [keysOf, ren]) (by simp [keysOf, ren]))
              · intro j hj
                simp only [go_sem, s_ref09_class_b0, wc, ↓reduceIte, Nat.reduceEqDiff, Nat.reduceAdd, Nat.reduceLeDiff, reduceCtorEq, Int.natCast_nonneg, List.getElem?_map, Int.toNat_natCast, List.length_map, List.replicate_zero, Bool.bne_false, Bool.bne_true, Nat.reduceLT, Int.reduceLT, Int.reduceLE, Int.reduceEq, Int.reduceToNat, List.length_replicate, List.isEmpty_cons, List.isEmpty_nil, Nat.le_refl, Int.le_refl, Int.sub_zero, Int.sub_self, ne_eq, List.length_append, Int.toNat_zero, Nat.zero_mul, Nat.mul_one, Nat.one_mul, Nat.reduceMul]
                refine W_split rfl (fun h1 => ?_) (fun h1 => ?_)
                · simp at h1
                  have q1 : ((c.toNat + j : Nat) : Int) < ((256 : Nat) : Int) := by omega
                  have q2 : c.toNat + j + 1 ≤ 256 := by omega
                  have ej : IntKind.i64.wrap (((c.toNat + j : Nat) : Int) + 1) = ((c.toNat + (j + 1) : Nat) : Int) := by rw [wrap_i64_of (by omega) (by omega)]; omega
                  have hput := bits_put (addM n c.toNat j) (c.toNat + j) (by omega)
                  simp only [go_sem, q1, q2, ej, bits_len, hput, ↓reduceIte, Nat.reduceEqDiff, Nat.reduceAdd, Nat.reduceLeDiff, reduceCtorEq, Int.natCast_nonneg, List.getElem?_map, Int.toNat_natCast, List.length_map, List.replicate_zero, Bool.bne_false, Bool.bne_true, Nat.reduceLT, Int.reduceLT, Int.reduceLE, Int.reduceEq, Int.reduceToNat, List.length_replicate, List.isEmpty_cons, List.isEmpty_nil, Nat.le_refl, Int.le_refl, Int.sub_zero, Int.sub_self, ne_eq, List.length_append, Int.toNat_zero, Nat.zero_mul, Nat.mul_one, Nat.one_mul, Nat.reduceMul]
                  refine rd_of (j + 1) (by first | omega | (simp only; omega)) (by first | omega | (simp only; omega)) ?_
                  rw [addM_snoc]
                  exact (subL [] [] (by simp [envS, go_sem, wkV, wkL, AV.ids, idsL, keysOf, ren, stoOf, slTrees, AV.asOwn, rowPart, AV.isNil, setL, pst, bits_wk, bits_all, bits_ids] <;> assumption) (by simp [stoS, go_sem, wkV, wkL, wkO, AV.ids, Ob.ids, idsL, keysOf, ren, AV.one, stoOf, slTrees, AV.asOwn, rowPart, AV.isNil, setL, pst, bits_wk, bits_all, bits_ids] <;> assumption) (by simp [keysOf, ren]) (by simp [stoOf, keysOf, ren]) (by simp [keysOf, ren]) (by simp [keysOf, ren]))
                · simp at h1
                  have ej : j = c.toNat + 1 - c.toNat := by omega
                  subst ej
                  have ea : IntKind.i64.wrap (((s.size - ((d :: x2 :: r').length + 1) : Nat) : Int) + 1) = ((s.size - (d :: x2 :: r').length : Nat) : Int) := by rw [wrap_i64_of (by omega) (by omega)]; omega
                  have ek : IntKind.i64.wrap ((k : Int) + 1) = ((k + 1 : Nat) : Int) := by rw [wrap_i64_of (by omega) (by omega)]; omega
                  simp only [go_sem, s_ref09_class_t1, ea, ek, ↓reduceIte, Nat.reduceEqDiff, Nat.reduceAdd, Nat.reduceLeDiff, reduceCtorEq, Int.natCast_nonneg, List.getElem?_map, Int.toNat_natCast, List.length_map, List.replicate_zero, Bool.bne_false, Bool.bne_true, Nat.reduceLT, Int.reduceLT, Int.reduceLE, Int.reduceEq, Int.reduceToNat, List.length_replicate, List.isEmpty_cons, List.isEmpty_nil, Nat.le_refl, Int.le_refl, Int.sub_zero, Int.sub_self, ne_eq, List.length_append, Int.toNat_zero, Nat.zero_mul, Nat.mul_one, Nat.one_mul, Nat.reduceMul]
                  refine rd_of ((d :: x2 :: r'), k + 1, addM n c.toNat (c.toNat + 1 - c.toNat)) (by simp; try omega) ⟨hlr, by simp only; omega, addM_lt _ _ _ hn (by omega), by rw [Nat.add_sub_cancel_left]; simpa using hr⟩ ?_
                  exact (subL [] [] (by simp [envS, go_sem, wkV, wkL, AV.ids, idsL, keysOf, ren, stoOf, slTrees, AV.asOwn, rowPart, AV.isNil, setL, pst, bits_wk, bits_all, bits_ids] <;> assumption) (by simp [stoS, go_sem, wkV, wkL, wkO, AV.ids, Ob.ids, idsL, keysOf, ren, AV.one, stoOf, slTrees, AV.asOwn, rowPart, AV.isNil, setL, pst, bits_wk, bits_all, bits_ids] <;> assumption) (by simp [keysOf, ren]) (by simp [stoOf, keysOf, ren]) (by simp [keysOf, ren]) (by simp [keysOf, ren]))
            · have qd := of_decide_eq_true hd
              cases hx93 : decide (x2.toNat = 93)
              · have qx := of_decide_eq_false hx93
                have hrg : rangedB (d :: x2 :: r') = true := by simp [rangedB, qd, qx]
                rw [classX_range c d x2 r' _ n q93 hrg] at hr
                have e3 : ((s.size - (r'.length + 1 + 1 + 1) + 2 : Nat) : Int) = ((s.size - (r'.length + 1) : Nat) : Int) := by omega
                cases hlt : decide (x2.toNat < c.toNat)
                · have qlt := of_decide_eq_false hlt
                  rw [if_neg qlt] at hr
                  have g3 := hlr.tail.get 0
                  simp only [List.length_cons, Nat.add_zero, List.getElem?_cons_zero] at g3
                  simp only [go_sem, s_ref09_class_b2, List.length_cons, d0, g0, g1, g3, e1, e2, hd, hx93, hlt, h93, w2, d1, dcc, wc, Bool.not_false, e3, ↓reduceIte, Nat.reduceEqDiff, Nat.reduceAdd, Nat.reduceLeDiff, reduceCtorEq, Int.natCast_nonneg, List.getElem?_map, Int.toNat_natCast, List.length_map, List.replicate_zero, Bool.bne_false, Bool.bne_true, Nat.reduceLT, Int.reduceLT, Int.reduceLE, Int.reduceEq, Int.reduceToNat, List.length_replicate, List.isEmpty_cons, List.isEmpty_nil, Nat.le_refl, Int.le_refl, Int.sub_zero, Int.sub_self, ne_eq, List.length_append, Int.toNat_zero, Nat.zero_mul, Nat.mul_one, Nat.one_mul, Nat.reduceMul]
                  refine W_loop (fun j : Nat => x2.toNat + 1 - c.toNat - j) (fun j => c.toNat + j ≤ x2.toNat + 1)
                    (fun j => [(0, .t (.v (.string s))), (1, I ((s.size - (r'.length + 1) : Nat) : Int)), (4, .ptr 100 0), (5, I 0), (6, Bo false), (7, .ptr 103 0), (8, Bo sk.1), (9, I k), (11, U8 x2.toNat), (12, I ((c.toNat + j : Nat) : Int))])
                    (fun j => [(100, .box (setL 0 ++ [Bo false])), (103, .box (bitsL (addM n c.toNat j)))]) 0 (by omega) ?_ ?_
                  · rw [show addM n c.toNat 0 = n from rfl]
                    exact (subL [] [] (by simp [envS, go_sem, wkV, wkL, AV.ids, idsL, keysOf, ren, stoOf, slTrees, AV.asOwn, rowPart, AV.isNil, setL, pst, bits_wk, bits_all, bits_ids] <;> assumption) (by simp [stoS, go_sem, wkV, wkL, wkO, AV.ids, Ob.ids, idsL, keysOf, ren, AV.one, stoOf, slTrees, AV.asOwn, rowPart, AV.isNil, setL, pst, bits_wk, bits_all, bits_ids] <;> assumption) (by simp [keysOf, ren]) (by simp [stoOf, keysOf, ren]) (by simp [keysOf, ren]) (by simp [keysOf, ren]))
                  · intro j hj
                    simp only [go_sem, s_ref09_class_b0, wx, ↓reduceIte, Nat.reduceEqDiff, Nat.reduceAdd, Nat.reduceLeDiff, reduceCtorEq, Int.natCast_nonneg, List.getElem?_map, Int.toNat_natCast, List.length_map, List.replicate_zero, Bool.bne_false, Bool.bne_true, Nat.reduceLT, Int.reduceLT, Int.reduceLE, Int.reduceEq, Int.reduceToNat, List.length_replicate, List.isEmpty_cons, List.isEmpty_nil, Nat.le_refl, Int.le_refl, Int.sub_zero, Int.sub_self, ne_eq, List.length_append, Int.toNat_zero, Nat.zero_mul, Nat.mul_one, Nat.one_mul, Nat.reduceMul]
                    refine W_split rfl (fun h1 => ?_) (fun h1 => ?_)
                    · simp at h1
                      have q1 : ((c.toNat + j : Nat) : Int) < ((256 : Nat) : Int) := by omega
                      have q2 : c.toNat + j + 1 ≤ 256 := by omega
                      have ej : IntKind.i64.wrap (((c.toNat + j : Nat) : Int) + 1) = ((c.toNat + (j + 1) : Nat) : Int) := by rw [wrap_i64_of (by omega) (by omega)]; omega
                      have hput := bits_put (addM n c.toNat j) (c.toNat + j) (by omega)
                      simp only [go_sem, q1, q2, ej, bits_len, hput, ↓reduceIte, Nat.reduceEqDiff, Nat.reduceAdd, Nat.reduceLeDiff, reduceCtorEq, Int.natCast_nonneg, List.getElem?_map, Int.toNat_natCast, List.length_map, List.replicate_zero, Bool.bne_false, Bool.bne_true, Nat.reduceLT, Int.reduceLT, Int.reduceLE, Int.reduceEq, Int.reduceToNat, List.length_replicate, List.isEmpty_cons, List.isEmpty_nil, Nat.le_refl, Int.le_refl, Int.sub_zero, Int.sub_self, ne_eq, List.length_append, Int.toNat_zero, Nat.zero_mul, Nat.mul_one, Nat.one_mul, Nat.reduceMul]
                      refine rd_of (j + 1) (by first | omega | (simp only; omega)) (by first | omega | (simp only; omega)) ?_
                      rw [addM_snoc]
                      exact (subL [] [] (by simp [envS, go_sem, wkV, wkL, AV.ids, idsL, keysOf, ren, stoOf, slTrees, AV.asOwn, rowPart, AV.isNil, setL, pst, bits_wk, bits_all, bits_ids] <;> assumption) (by simp [stoS, go_sem, wkV, wkL, wkO, AV.ids, Ob.ids, idsL, keysOf, ren, AV.one, stoOf, slTrees, AV.asOwn, rowPart, AV.isNil, setL, pst, bits_wk, bits_all, bits_ids] <;> assumption) (by simp [keysOf, ren]) (by simp [stoOf, keysOf, ren]) (by simp [keysOf, ren]) (by simp [keysOf, ren]))
                    · simp at h1
                      have ej : j = x2.toNat + 1 - c.toNat := by omega
                      subst ej
                      have ea : IntKind.i64.wrap (((s.size - (r'.length + 1) : Nat) : Int) + 1) = ((s.size - r'.length : Nat) : Int) := by rw [wrap_i64_of (by omega) (by omega)]; omega
                      have ek : IntKind.i64.wrap ((k : Int) + 1) = ((k + 1 : Nat) : Int) := by rw [wrap_i64_of (by omega) (by omega)]; omega
                      simp only [go_sem, s_ref09_class_t1, ea, ek, ↓reduceIte, Nat.reduceEqDiff, Nat.reduceAdd, Nat.reduceLeDiff, reduceCtorEq, Int.natCast_nonneg, List.getElem?_map, Int.toNat_natCast, List.length_map, List.replicate_zero, Bool.bne_false, Bool.bne_true, Nat.reduceLT, Int.reduceLT, Int.reduceLE, Int.reduceEq, Int.reduceToNat, List.length_replicate, List.isEmpty_cons, List.isEmpty_nil, Nat.le_refl, Int.le_refl, Int.sub_zero, Int.sub_self, ne_eq, List.length_append, Int.toNat_zero, Nat.zero_mul, Nat.mul_one, Nat.one_mul, Nat.reduceMul]
                      refine rd_of (r', k + 1, addM n c.toNat (x2.toNat + 1 - c.toNat)) (by simp; try omega) ⟨hlr.tail.tail, by simp only; omega, addM_lt _ _ _ hn (by omega), by simpa using hr⟩ ?_
                      exact (subL [] [] (by simp [envS, go_sem, wkV, wkL, AV.ids, idsL, keysOf, ren, stoOf, slTrees, AV.asOwn, rowPart, AV.isNil, setL, pst, bits_wk, bits_all, bits_ids] <;> assumption) (by simp [stoS, go_sem, wkV, wkL, wkO, AV.ids, Ob.ids, idsL, keysOf, ren, AV.one, stoOf, slTrees, AV.asOwn, rowPart, AV.isNil, setL, pst, bits_wk, bits_all, bits_ids] <;> assumption) (by simp [keysOf, ren]) (by simp [stoOf, keysOf, ren]) (by simp [keysOf, ren]) (by simp [keysOf, ren]))
                · rw [if_pos (of_decide_eq_true hlt)] at hr
                  subst hr
                  simp only [go_sem, s_ref09_class_b2, List.length_cons, d0, g0, g1, g2, e1, e2, hd, hx93, hlt, h93, w2, d1, dcc, wc, Bool.not_false, ↓reduceIte, Nat.reduceEqDiff, Nat.reduceAdd, Nat.reduceLeDiff, reduceCtorEq, Int.natCast_nonneg, List.getElem?_map, Int.toNat_natCast, List.length_map, List.replicate_zero, Bool.bne_false, Bool.bne_true, Nat.reduceLT, Int.reduceLT, Int.reduceLE, Int.reduceEq, Int.reduceToNat, List.length_replicate, List.isEmpty_cons, List.isEmpty_nil, Nat.le_refl, Int.le_refl, Int.sub_zero, Int.sub_self, ne_eq, List.length_append, Int.toNat_zero, Nat.zero_mul, Nat.mul_one, Nat.one_mul, Nat.reduceMul]
                  refine wends (by first | exact Or.inl rfl | exact Or.inr rfl) ?_ (by first | rfl | simp [AV.ids, idsL])
                  simp only [go_sem, r_ref09_class, ↓reduceIte, Nat.reduceEqDiff, Nat.reduceAdd, Nat.reduceLeDiff, reduceCtorEq, Int.natCast_nonneg, List.getElem?_map, Int.toNat_natCast, List.length_map, List.replicate_zero, Bool.bne_false, Bool.bne_true, Nat.reduceLT, Int.reduceLT, Int.reduceLE, Int.reduceEq, Int.reduceToNat, List.length_replicate, List.isEmpty_cons, List.isEmpty_nil, Nat.le_refl, Int.le_refl, Int.sub_zero, Int.sub_self, ne_eq, List.length_append, Int.toNat_zero, Nat.zero_mul, Nat.mul_one, Nat.one_mul, Nat.reduceMul]
                  simp
              · have qx := of_decide_eq_true hx93
                have hr := one (by simp [rangedB, qx])
                simp only [go_sem, s_ref09_class_b2, List.length_cons, d0, g0, g1, g2, e1, e2, hd, hx93, h93, w2, d1, dcc, wc, Bool.not_false, Bool.not_true, ↓reduceIte, Nat.reduceEqDiff, Nat.reduceAdd, Nat.reduceLeDiff, reduceCtorEq, Int.natCast_nonneg, List.getElem?_map, Int.toNat_natCast, List.length_map, List.replicate_zero, Bool.bne_false, Bool.bne_true, Nat.reduceLT, Int.reduceLT, Int.reduceLE, Int.reduceEq, Int.reduceToNat, List.length_replicate, List.isEmpty_cons, List.isEmpty_nil, Nat.le_refl, Int.le_refl, Int.sub_zero, Int.sub_self, ne_eq, List.length_append, Int.toNat_zero, Nat.zero_mul, Nat.mul_one, Nat.one_mul, Nat.reduceMul]
                refine W_loop (fun j : Nat => c.toNat + 1 - c.toNat - j) (fun j => c.toNat + j ≤ c.toNat + 1)
                  (fun j => [(0, .t (.v (.string s))), (1, I ((s.size - ((d :: x2 :: r').length + 1) : Nat) : Int)), (4, .ptr 100 0), (5, I 0), (6, Bo false), (7, .ptr 103 0), (8, Bo sk.1), (9, I k), (11, U8 c.toNat), (12, I ((c.toNat + j : Nat) : Int))])
                  (fun j => [(100, .box (setL 0 ++ [Bo false])), (103, .box (bitsL (addM n c.toNat j)))]) 0 (by omega) ?_ ?_
                · rw [show addM n c.toNat 0 = n from rfl]
                  exact (subL [] [] (by simp [envS, go_sem, wkV, wkL, AV.ids, idsL, keysOf, ren, stoOf, slTrees, AV.asOwn, rowPart, AV.isNil, setL, pst, bits_wk, bits_all, bits_ids] <;> assumption) (by simp [stoS, go_sem, wkV, wkL, wkO, AV.ids, Ob.ids, idsL, keysOf, ren, AV.one, stoOf, slTrees, AV.asOwn, rowPart, AV.isNil, setL, pst, bits_wk, bits_all, bits_ids] <;> assumption) (by simp [keysOf, ren]) (by simp [stoOf, keysOf, ren]) (by simp [keysOf, ren]) (by simp [keysOf, ren]))
                · intro j hj
                  simp only [go_sem, s_ref09_class_b0, wc, ↓reduceIte, Nat.reduceEqDiff, Nat.reduceAdd, Nat.reduceLeDiff, reduceCtorEq, Int.natCast_nonneg, List.getElem?_map, Int.toNat_natCast, List.length_map, List.replicate_zero, Bool.bne_false, Bool.bne_true, Nat.reduceLT, Int.reduceLT, Int.reduceLE, Int.reduceEq, Int.reduceToNat, List.length_replicate, List.isEmpty_cons, List.isEmpty_nil, Nat.le_refl, Int.le_refl, Int.sub_zero, Int.sub_self, ne_eq, List.length_append, Int.toNat_zero, Nat.zero_mul, Nat.mul_one, Nat.one_mul, Nat.reduceMul]
                  refine W_split rfl (fun h1 => ?_) (fun h1 => ?_)
                  · simp at h1
                    have q1 : ((c.toNat + j : Nat) : Int) < ((256 : Nat) : Int) := by omega
                    have q2 : c.toNat + j + 1 ≤ 256 := by omega
                    have ej : IntKind.i64.wrap (((c.toNat + j : Nat) : Int) + 1) = ((c.toNat + (j + 1) : Nat) : Int) := by rw [wrap_i64_of (by omega) (by omega)]; omega
                    have hput := bits_put (addM n c.toNat j) (c.toNat + j) (by omega)
                    simp only [go_sem, q1, q2, ej, bits_len, hput, ↓reduceIte, Nat.reduceEqDiff, Nat.reduceAdd, Nat.reduceLeDiff, reduceCtorEq, Int.natCast_nonneg, List.getElem?_map, Int.toNat_natCast, List.length_map, List.replicate_zero, Bool.bne_false, Bool.bne_true, Nat.reduceLT, Int.reduceLT, Int.reduceLE, Int.reduceEq, Int.reduceToNat, List.length_replicate, List.isEmpty_cons, List.isEmpty_nil, Nat.le_refl, Int.le_refl, Int.sub_zero, Int.sub_self, ne_eq, List.length_append, Int.toNat_zero, Nat.zero_mul, Nat.mul_one, Nat.one_mul, Nat.reduceMul]
                    refine rd_of (j + 1) (by first | omega | (simp only; omega)) (by first | omega | (simp only; omega)) ?_
                    rw [addM_snoc]
                    exact (subL [] [] (by simp [envS, go_sem, wkV, wkL, AV.ids, idsL, keysOf, ren, stoOf, slTrees, AV.asOwn, rowPart, AV.isNil, setL, pst, bits_wk, bits_all, bits_ids] <;> assumption) (by simp [stoS, go_sem, wkV, wkL, wkO, AV.ids, Ob.ids, idsL, keysOf, ren, AV.one, stoOf, slTrees, AV.asOwn, rowPart, AV.isNil, setL, pst, bits_wk, bits_all, bits_ids] <;> assumption) (by simp [keysOf, ren]) (by simp [stoOf, keysOf, ren]) (by simp [keysOf, ren]) (by simp [keysOf, ren]))
                  · simp at h1
                    have ej : j = c.toNat + 1 - c.toNat := by omega
                    subst ej
                    have ea : IntKind.i64.wrap (((s.size - ((d :: x2 :: r').length + 1) : Nat) : Int) + 1) = ((s.size - (d :: x2 :: r').length : Nat) : Int) := by rw [wrap_i64_of (by omega) (by omega)]; omega
                    have ek : IntKind.i64.wrap ((k : Int) + 1) = ((k + 1 : Nat) : Int) := by rw [wrap_i64_of (by omega) (by omega)]; omega
                    simp only [go_sem, s_ref09_class_t1, ea, ek, ↓reduceIte, Nat.reduceEqDiff, Nat.reduceAdd, Nat.reduceLeDiff, reduceCtorEq, Int.natCast_nonneg, List.getElem?_map, Int.toNat_natCast, List.length_map, List.replicate_zero, Bool.bne_false, Bool.bne_true, Nat.reduceLT, Int.reduceLT, Int.reduceLE, Int.reduceEq, Int.reduceToNat, List.length_replicate, List.isEmpty_cons, List.isEmpty_nil, Nat.le_refl, Int.le_refl, Int.sub_zero, Int.sub_self, ne_eq, List.length_append, Int.toNat_zero, Nat.zero_mul, Nat.mul_one, Nat.one_mul, Nat.reduceMul]
                    refine rd_of ((d :: x2 :: r'), k + 1, addM n c.toNat (c.toNat + 1 - c.toNat)) (by simp; try omega) ⟨hlr, by simp only; omega, addM_lt _ _ _ hn (by omega), by rw [Nat.add_sub_cancel_left]; simpa using hr⟩ ?_
                    exact (subL [] [] (by simp [envS, go_sem, wkV, wkL, AV.ids, idsL, keysOf, ren, stoOf, slTrees, AV.asOwn, rowPart, AV.isNil, setL, pst, bits_wk, bits_all, bits_ids] <;> assumption) (by simp [stoS, go_sem, wkV, wkL, wkO, AV.ids, Ob.ids, idsL, keysOf, ren, AV.one, stoOf, slTrees, AV.asOwn, rowPart, AV.isNil, setL, pst, bits_wk, bits_all, bits_ids] <;> assumption) (by simp [keysOf, ren]) (by simp [stoOf, keysOf, ren]) (by simp [keysOf, ren]) (by simp [keysOf, ren]))
        · have q93 := of_decide_eq_true h93
          rw [classX_end c r _ n q93] at hr
          subst hr
          have d2 : decide (s.size ≤ s.size - (r.length + 1)) = false := by simp; omega
          cases hk0 : decide ((k : Int) = 0)
          · have qk := of_decide_eq_false hk0
            have hkp : decide (0 < k) = true := by simp; omega
            simp only [go_sem, s_ref09_class_b2, d0, g0, h93, d2, hk0, s_ref09_class_t5, hkp, ↓reduceIte, Nat.reduceEqDiff, Nat.reduceAdd, Nat.reduceLeDiff, reduceCtorEq, Int.natCast_nonneg, List.getElem?_map, Int.toNat_natCast, List.length_map, List.replicate_zero, Bool.bne_false, Bool.bne_true, Nat.reduceLT, Int.reduceLT, Int.reduceLE, Int.reduceEq, Int.reduceToNat, List.length_replicate, List.isEmpty_cons, List.isEmpty_nil, Nat.le_refl, Int.le_refl, Int.sub_zero, Int.sub_self, ne_eq, List.length_append, Int.toNat_zero, Nat.zero_mul, Nat.mul_one, Nat.one_mul, Nat.reduceMul]
            have hq : ∀ b : Bool, (b == sk.1) = !(b != sk.1) := by intro b; cases b <;> cases sk.1 <;> rfl
            refine W_loop (fun i : Nat => 256 - i) (fun i => i ≤ 256)
              (fun i => [(0, .t (.v (.string s))), (1, I ((s.size - (r.length + 1) : Nat) : Int)), (4, .ptr 100 0), (7, .ptr 103 0), (8, Bo sk.1), (13, .ptr 203 0), (14, I i)])
              (fun i => [(100, .box (setL 0 ++ [Bo false])), (103, .box (bitsL n)), (203, .box (setL (selM n sk.1 i) ++ [Bo false]))]) 0 (by omega) ?_ ?_
            · rw [show selM n sk.1 0 = 0 from rfl]
              exact (subL [] [] (by simp [envS, go_sem, wkV, wkL, AV.ids, idsL, keysOf, ren, stoOf, slTrees, AV.asOwn, rowPart, AV.isNil, setL, pst, bits_wk, bits_all, bits_ids] <;> assumption) (by simp [stoS, go_sem, wkV, wkL, wkO, AV.ids, Ob.ids, idsL, keysOf, ren, AV.one, stoOf, slTrees, AV.asOwn, rowPart, AV.isNil, setL, pst, bits_wk, bits_all, bits_ids] <;> assumption) (by simp [keysOf, ren]) (by simp [stoOf, keysOf, ren]) (by simp [keysOf, ren]) (by simp [keysOf, ren]))
            · intro i hi
              simp only [go_sem, s_ref09_class_b3, ↓reduceIte, Nat.reduceEqDiff, Nat.reduceAdd, Nat.reduceLeDiff, reduceCtorEq, Int.natCast_nonneg, List.getElem?_map, Int.toNat_natCast, List.length_map, List.replicate_zero, Bool.bne_false, Bool.bne_true, Nat.reduceLT, Int.reduceLT, Int.reduceLE, Int.reduceEq, Int.reduceToNat, List.length_replicate, List.isEmpty_cons, List.isEmpty_nil, Nat.le_refl, Int.le_refl, Int.sub_zero, Int.sub_self, ne_eq, List.length_append, Int.toNat_zero, Nat.zero_mul, Nat.mul_one, Nat.one_mul, Nat.reduceMul]
              refine W_split rfl (fun h1 => ?_) (fun h1 => ?_)
              · simp at h1
                have q1 : (i : Int) < ((256 : Nat) : Int) := by omega
                have q2 : i + 1 ≤ 256 := by omega
                have ei : IntKind.i64.wrap ((i : Int) + 1) = ((i + 1 : Nat) : Int) := by rw [wrap_i64_of (by omega) (by omega)]; omega
                have hget : (List.drop i (bitsL n))[0]? = some (Bo (n.testBit i)) := by rw [List.getElem?_drop, Nat.add_zero]; exact bits_get n i (by omega)
                cases hb : (n.testBit i != sk.1)
                · have hb' : (!(n.testBit i == sk.1)) = false := hb
                  simp only [go_sem, q1, q2, ei, bits_len, hget, hb', ↓reduceIte, Nat.reduceEqDiff, Nat.reduceAdd, Nat.reduceLeDiff, reduceCtorEq, Int.natCast_nonneg, List.getElem?_map, Int.toNat_natCast, List.length_map, List.replicate_zero, Bool.bne_false, Bool.bne_true, Nat.reduceLT, Int.reduceLT, Int.reduceLE, Int.reduceEq, Int.reduceToNat, List.length_replicate, List.isEmpty_cons, List.isEmpty_nil, Nat.le_refl, Int.le_refl, Int.sub_zero, Int.sub_self, ne_eq, List.length_append, Int.toNat_zero, Nat.zero_mul, Nat.mul_one, Nat.one_mul, Nat.reduceMul]
                  refine rd_of (i + 1) (by first | omega | (simp only; omega)) (by first | omega | (simp only; omega)) ?_
                  rw [show selM n sk.1 (i + 1) = selM n sk.1 i from by simp only [selM, hb]; rfl]
                  exact (subL [] [] (by simp [envS, go_sem, wkV, wkL, AV.ids, idsL, keysOf, ren, stoOf, slTrees, AV.asOwn, rowPart, AV.isNil, setL, pst, bits_wk, bits_all, bits_ids] <;> assumption) (by simp [stoS, go_sem, wkV, wkL, wkO, AV.ids, Ob.ids, idsL, keysOf, ren, AV.one, stoOf, slTrees, AV.asOwn, rowPart, AV.isNil, setL, pst, bits_wk, bits_all, bits_ids] <;> assumption) (by simp [keysOf, ren]) (by simp [stoOf, keysOf, ren]) (by simp [keysOf, ren]) (by simp [keysOf, ren]))
                · have hb' : (!(n.testBit i == sk.1)) = true := hb
                  have hsel : selM n sk.1 (i + 1) = selM n sk.1 i ||| 2 ^ i := by simp only [selM, hb]; rfl
                  generalize hm : selM n sk.1 i = m at *
                  have hmin : min (i % 64) 64 = i % 64 := Nat.min_eq_left (by omega)
                  have h4 : i / 64 = 0 ∨ i / 64 = 1 ∨ i / 64 = 2 ∨ i / 64 = 3 := by omega
                  have i4 : ∀ j : Nat, j < 4 → (j : Int) < ((4 : Nat) : Int) := by omega
                  have o1 : i / 64 ≠ 0 → (m ||| 2 ^ i) % 18446744073709551616 = m % 18446744073709551616 := fun h => by rw [word0, word0, word_or_other _ _ _ h]
                  have o2 : i / 64 ≠ 1 → (m ||| 2 ^ i) / 18446744073709551616 % 18446744073709551616 = m / 18446744073709551616 % 18446744073709551616 := fun h => by rw [word1, word1, word_or_other _ _ _ h]
                  have o3 : i / 64 ≠ 2 → (m ||| 2 ^ i) / 340282366920938463463374607431768211456 % 18446744073709551616 = m / 340282366920938463463374607431768211456 % 18446744073709551616 := fun h => by rw [word2, word2, word_or_other _ _ _ h]
                  have o4 : i / 64 ≠ 3 → (m ||| 2 ^ i) / (18446744073709551616 * 340282366920938463463374607431768211456) % 18446744073709551616 = m / (18446744073709551616 * 340282366920938463463374607431768211456) % 18446744073709551616 := fun h => by rw [word3, word3, word_or_other _ _ _ h]
                  have p0 : 2 ^ (i % 64) % 18446744073709551616 = 2 ^ (i % 64) := Nat.mod_eq_of_lt (Nat.pow_lt_pow_right (n := 64) (by decide) (by omega))
                  have p1 : i / 64 = 0 → (m ||| 2 ^ i) % 18446744073709551616 = m % 18446744073709551616 % 18446744073709551616 ||| 2 ^ (i % 64) := fun h => by rw [Nat.mod_mod, word0, word0, word_or_same _ _ _ h]
                  have p2 : i / 64 = 1 → (m ||| 2 ^ i) / 18446744073709551616 % 18446744073709551616 = m / 18446744073709551616 % 18446744073709551616 % 18446744073709551616 ||| 2 ^ (i % 64) := fun h => by rw [Nat.mod_mod, word1, word1, word_or_same _ _ _ h]
                  have p3 : i / 64 = 2 → (m ||| 2 ^ i) / 340282366920938463463374607431768211456 % 18446744073709551616 = m / 340282366920938463463374607431768211456 % 18446744073709551616 % 18446744073709551616 ||| 2 ^ (i % 64) := fun h => by rw [Nat.mod_mod, word2, word2, word_or_same _ _ _ h]
                  have p4 : i / 64 = 3 → (m ||| 2 ^ i) / (18446744073709551616 * 340282366920938463463374607431768211456) % 18446744073709551616 = m / (18446744073709551616 * 340282366920938463463374607431768211456) % 18446744073709551616 % 18446744073709551616 ||| 2 ^ (i % 64) := fun h => by rw [Nat.mod_mod, word3, word3, word_or_same _ _ _ h]
                  rcases h4 with h4 | h4 | h4 | h4
                  · have e1 := p1 h4
                    have e2 := o2 (by omega)
                    have e3 := o3 (by omega)
                    have e4 := o4 (by omega)
                    have iq : (i : Int) / 64 = ((0 : Nat) : Int) := by omega
                    have wu : IntKind.u64.wrap ((i % 64 : Nat) : Int) = ((i % 64 : Nat) : Int) := by rw [u64_wrap_nat]; omega
                    have ir : (i : Int) % 64 = ((i % 64 : Nat) : Int) := by omega
                    ((try simp only [go_sem, q1, q2, ei, bits_len, hget, hb', h4, iq, ir, wu, hmin, p0, i4 0 (by decide), setL, ↓reduceIte, Nat.reduceEqDiff, Nat.reduceAdd, Nat.reduceLeDiff, reduceCtorEq, Int.natCast_nonneg, List.getElem?_map, Int.toNat_natCast, List.length_map, List.replicate_zero, Bool.bne_false, Bool.bne_true, Nat.reduceLT, Int.reduceLT, Int.reduceLE, Int.reduceEq, Int.reduceToNat, List.length_replicate, List.isEmpty_cons, List.isEmpty_nil, Nat.le_refl, Int.le_refl, Int.sub_zero, Int.sub_self, ne_eq, List.length_append, Int.toNat_zero, Nat.zero_mul, Nat.mul_one, Nat.one_mul, Nat.reduceMul]); repeat (simp (disch := omega) only [wrap_i64_of, i64_quo, i64_rem, sdiv, smod]; (try simp only [go_sem, q1, q2, ei, bits_len, hget, hb', h4, iq, ir, wu, hmin, p0, i4 0 (by decide), setL, ↓reduceIte, Nat.reduceEqDiff, Nat.reduceAdd, Nat.reduceLeDiff, reduceCtorEq, Int.natCast_nonneg, List.getElem?_map, Int.toNat_natCast, List.length_map, List.replicate_zero, Bool.bne_false, Bool.bne_true, Nat.reduceLT, Int.reduceLT, Int.reduceLE, Int.reduceEq, Int.reduceToNat, List.length_replicate, List.isEmpty_cons, List.isEmpty_nil, Nat.le_refl, Int.le_refl, Int.sub_zero, Int.sub_self, ne_eq, List.length_append, Int.toNat_zero, Nat.zero_mul, Nat.mul_one, Nat.one_mul, Nat.reduceMul])))
                    refine rd_of (i + 1) (by first | omega | (simp only; omega)) (by first | omega | (simp only; omega)) ?_
                    rw [hsel]
                    simp only [setL, e1, e2, e3, e4]
                    exact (subL [] [] (by simp [envS, go_sem, wkV, wkL, AV.ids, idsL, keysOf, ren, stoOf, slTrees, AV.asOwn, rowPart, AV.isNil, setL, pst, bits_wk, bits_all, bits_ids] <;> assumption) (by simp [stoS, go_sem, wkV, wkL, wkO, AV.ids, Ob.ids, idsL, keysOf, ren, AV.one, stoOf, slTrees, AV.asOwn, rowPart, AV.isNil, setL, pst, bits_wk, bits_all, bits_ids] <;> assumption) (by simp [keysOf, ren]) (by simp [stoOf, keysOf, ren]) (by simp [keysOf, ren]) (by simp [keysOf, ren]))
                  · have e1 := o1 (by omega)
                    have e2 := p2 h4
                    have e3 := o3 (by omega)
                    have e4 := o4 (by omega)
                    have iq : (i : Int) / 64 = ((1 : Nat) : Int) := by omega
                    have wu : IntKind.u64.wrap ((i % 64 : Nat) : Int) = ((i % 64 : Nat) : Int) := by rw [u64_wrap_nat]; omega
                    have ir : (i : Int) % 64 = ((i % 64 : Nat) : Int) := by omega
                    ((try simp only [go_sem, q1, q2, ei, bits_len, hget, hb', h4, iq, ir, wu, hmin, p0, i4 1 (by decide), setL, ↓reduceIte, Nat.reduceEqDiff, Nat.reduceAdd, Nat.reduceLeDiff, reduceCtorEq, Int.natCast_nonneg, List.getElem?_map, Int.toNat_natCast, List.length_map, List.replicate_zero, Bool.bne_false, Bool.bne_true, Nat.reduceLT, Int.reduceLT, Int.reduceLE, Int.reduceEq, Int.reduceToNat, List.length_replicate, List.isEmpty_cons, List.isEmpty_nil, Nat.le_refl, Int.le_refl, Int.sub_zero, Int.sub_self, ne_eq, List.length_append, Int.toNat_zero, Nat.zero_mul, Nat.mul_one, Nat.one_mul, Nat.reduceMul]); repeat (simp (disch := omega) only [wrap_i64_of, i64_quo, i64_rem, sdiv, smod]; (try simp only [go_sem, q1, q2, ei, bits_len, hget, hb', h4, iq, ir, wu, hmin, p0, i4 1 (by decide), setL, ↓reduceIte, Nat.reduceEqDiff, Nat.reduceAdd, Nat.reduceLeDiff, reduceCtorEq, Int.natCast_nonneg, List.getElem?_map, Int.toNat_natCast, List.length_map, List.replicate_zero, Bool.bne_false, Bool.bne_true, Nat.reduceLT, Int.reduceLT, Int.reduceLE, Int.reduceEq, Int.reduceToNat, List.length_replicate, List.isEmpty_cons, List.isEmpty_nil, Nat.le_refl, Int.le_refl, Int.sub_zero, Int.sub_self, ne_eq, List.length_append, Int.toNat_zero, Nat.zero_mul, Nat.mul_one, Nat.one_mul, Nat.reduceMul])))
                    refine rd_of (i + 1) (by first | omega | (simp only; omega)) (by first | omega | (simp only; omega)) ?_
                    rw [hsel]
                    simp only [setL, e1, e2, e3, e4]
                    exact (subL [] [] (by simp [envS, go_sem, wkV, wkL, AV.ids, idsL, keysOf, ren, stoOf, slTrees, AV.asOwn, rowPart, AV.isNil, setL, pst, bits_wk, bits_all, bits_ids] <;> assumption) (by simp [stoS, go_sem, wkV, wkL, wkO, AV.ids, Ob.ids, idsL, keysOf, ren, AV.one, stoOf, slTrees, AV.asOwn, rowPart, AV.isNil, setL, pst, bits_wk, bits_all, bits_ids] <;> assumption) (by simp [keysOf, ren]) (by simp [stoOf, keysOf, ren]) (by simp [keysOf, ren]) (by simp [keysOf, ren]))
                  · have e1 := o1 (by omega)
                    have e2 := o2 (by omega)
                    have e3 := p3 h4
                    have e4 := o4 (by omega)
                    have iq : (i : Int) / 64 = ((2 : Nat) : Int) := by omega
                    have wu : IntKind.u64.wrap ((i % 64 : Nat) : Int) = ((i % 64 : Nat) : Int) := by rw [u64_wrap_nat]; omega
                    have ir : (i : Int) % 64 = ((i % 64 : Nat) : Int) := by omega
                    ((try simp only [go_sem, q1, q2, ei, bits_len, hget, hb', h4, iq, ir, wu, hmin, p0, i4 2 (by decide), setL, ↓reduceIte, Nat.reduceEqDiff, Nat.reduceAdd, Nat.reduceLeDiff, reduceCtorEq, Int.natCast_nonneg, List.getElem?_map, Int.toNat_natCast, List.length_map, List.replicate_zero, Bool.bne_false, Bool.bne_true, Nat.reduceLT, Int.reduceLT, Int.reduceLE, Int.reduceEq, Int.reduceToNat, List.length_replicate, List.isEmpty_cons, List.isEmpty_nil, Nat.le_refl, Int.le_refl, Int.sub_zero, Int.sub_self, ne_eq, List.length_append, Int.toNat_zero, Nat.zero_mul, Nat.mul_one, Nat.one_mul, Nat.reduceMul]); repeat (simp (disch := omega) only [wrap_i64_of, i64_quo, i64_rem, sdiv, smod]; (try simp only [go_sem, q1, q2, ei, bits_len, hget, hb', h4, iq, ir, wu, hmin, p0, i4 2 (by decide), setL, ↓reduceIte, Nat.reduceEqDiff, Nat.reduceAdd, Nat.reduceLeDiff, reduceCtorEq, Int.natCast_nonneg, List.getElem?_map, Int.toNat_natCast, List.length_map, List.replicate_zero, Bool.bne_false, Bool.bne_true, Nat.reduceLT, Int.reduceLT, Int.reduceLE, Int.reduceEq, Int.reduceToNat, List.length_replicate, List.isEmpty_cons, List.isEmpty_nil, Nat.le_refl, Int.le_refl, Int.sub_zero, Int.sub_self, ne_eq, List.length_append, Int.toNat_zero, Nat.zero_mul, Nat.mul_one, Nat.one_mul, Nat.reduceMul])))
                    refine rd_of (i + 1) (by first | omega | (simp only; omega)) (by first | omega | (simp only; omega)) ?_
                    rw [hsel]
                    simp only [setL, e1, e2, e3, e4]
                    exact (subL [] [] (by simp [envS, go_sem, wkV, wkL, AV.ids, idsL, keysOf, ren, stoOf, slTrees, AV.asOwn, rowPart, AV.isNil, setL, pst, bits_wk, bits_all, bits_ids] <;> assumption) (by simp [stoS, go_sem, wkV, wkL, wkO, AV.ids, Ob.ids, idsL, keysOf, ren, AV.one, stoOf, slTrees, AV.asOwn, rowPart, AV.isNil, setL, pst, bits_wk, bits_all, bits_ids] <;> assumption) (by simp [keysOf, ren]) (by simp [stoOf, keysOf, ren]) (by simp [keysOf, ren]) (by simp [keysOf, ren]))
                  · have e1 := o1 (by omega)
                    have e2 := o2 (by omega)
                    have e3 := o3 (by omega)
                    have e4 := p4 h4
                    have iq : (i : Int) / 64 = ((3 : Nat) : Int) := by omega
                    have wu : IntKind.u64.wrap ((i % 64 : Nat) : Int) = ((i % 64 : Nat) : Int) := by rw [u64_wrap_nat]; omega
                    have ir : (i : Int) % 64 = ((i % 64 : Nat) : Int) := by omega
                    ((try simp only [go_sem, q1, q2, ei, bits_len, hget, hb', h4, iq, ir, wu, hmin, p0, i4 3 (by decide), setL, ↓reduceIte, Nat.reduceEqDiff, Nat.reduceAdd, Nat.reduceLeDiff, reduceCtorEq, Int.natCast_nonneg, List.getElem?_map, Int.toNat_natCast, List.length_map, List.replicate_zero, Bool.bne_false, Bool.bne_true, Nat.reduceLT, Int.reduceLT, Int.reduceLE, Int.reduceEq, Int.reduceToNat, List.length_replicate, List.isEmpty_cons, List.isEmpty_nil, Nat.le_refl, Int.le_refl, Int.sub_zero, Int.sub_self, ne_eq, List.length_append, Int.toNat_zero, Nat.zero_mul, Nat.mul_one, Nat.one_mul, Nat.reduceMul]); repeat (simp (disch := omega) only [wrap_i64_of, i64_quo, i64_rem, sdiv, smod]; (try simp only [go_sem, q1, q2, ei, bits_len, hget, hb', h4, iq, ir, wu, hmin, p0, i4 3 (by decide), setL, ↓reduceIte, Nat.reduceEqDiff, Nat.reduceAdd, Nat.reduceLeDiff, reduceCtorEq, Int.natCast_nonneg, List.getElem?_map, Int.toNat_natCast, List.length_map, List.replicate_zero, Bool.bne_false, Bool.bne_true, Nat.reduceLT, Int.reduceLT, Int.reduceLE, Int.reduceEq, Int.reduceToNat, List.length_replicate, List.isEmpty_cons, List.isEmpty_nil, Nat.le_refl, Int.le_refl, Int.sub_zero, Int.sub_self, ne_eq, List.length_append, Int.toNat_zero, Nat.zero_mul, Nat.mul_one, Nat.one_mul, Nat.reduceMul])))
                    refine rd_of (i + 1) (by first | omega | (simp only; omega)) (by first | omega | (simp only; omega)) ?_
                    rw [hsel]
                    simp only [setL, e1, e2, e3, e4]
                    exact (subL [] [] (by simp [envS, go_sem, wkV, wkL, AV.ids, idsL, keysOf, ren, stoOf, slTrees, AV.asOwn, rowPart, AV.isNil, setL, pst, bits_wk, bits_all, bits_ids] <;> assumption) (by simp [stoS, go_sem, wkV, wkL, wkO, AV.ids, Ob.ids, idsL, keysOf, ren, AV.one, stoOf, slTrees, AV.asOwn, rowPart, AV.isNil, setL, pst, bits_wk, bits_all, bits_ids] <;> assumption) (by simp [keysOf, ren]) (by simp [stoOf, keysOf, ren]) (by simp [keysOf, ren]) (by simp [keysOf, ren]))
              · have e : i = 256 := by simp at h1; omega
                subst e
                have ea : IntKind.i64.wrap (((s.size - (r.length + 1) : Nat) : Int) + 1) = ((s.size - r.length : Nat) : Int) := by rw [wrap_i64_of (by omega) (by omega)]; omega
                simp only [go_sem, s_ref09_class_t4, ea, ↓reduceIte, Nat.reduceEqDiff, Nat.reduceAdd, Nat.reduceLeDiff, reduceCtorEq, Int.natCast_nonneg, List.getElem?_map, Int.toNat_natCast, List.length_map, List.replicate_zero, Bool.bne_false, Bool.bne_true, Nat.reduceLT, Int.reduceLT, Int.reduceLE, Int.reduceEq, Int.reduceToNat, List.length_replicate, List.isEmpty_cons, List.isEmpty_nil, Nat.le_refl, Int.le_refl, Int.sub_zero, Int.sub_self, ne_eq, List.length_append, Int.toNat_zero, Nat.zero_mul, Nat.mul_one, Nat.one_mul, Nat.reduceMul]
                refine wends (by first | exact Or.inl rfl | exact Or.inr rfl) ?_ (by first | rfl | simp [AV.ids, idsL])
                simp only [go_sem, r_ref09_class, hkp, selM_all hn, ↓reduceIte, Nat.reduceEqDiff, Nat.reduceAdd, Nat.reduceLeDiff, reduceCtorEq, Int.natCast_nonneg, List.getElem?_map, Int.toNat_natCast, List.length_map, List.replicate_zero, Bool.bne_false, Bool.bne_true, Nat.reduceLT, Int.reduceLT, Int.reduceLE, Int.reduceEq, Int.reduceToNat, List.length_replicate, List.isEmpty_cons, List.isEmpty_nil, Nat.le_refl, Int.le_refl, Int.sub_zero, Int.sub_self, ne_eq, List.length_append, Int.toNat_zero, Nat.zero_mul, Nat.mul_one, Nat.one_mul, Nat.reduceMul]
                cases sk.1 <;> simp
          · have qk := of_decide_eq_true hk0
            have hkp : decide (0 < k) = false := by simp; omega
            simp only [go_sem, s_ref09_class_b2, d0, g0, h93, d2, hk0, s_ref09_class_t5, ↓reduceIte, Nat.reduceEqDiff, Nat.reduceAdd, Nat.reduceLeDiff, reduceCtorEq, Int.natCast_nonneg, List.getElem?_map, Int.toNat_natCast, List.length_map, List.replicate_zero, Bool.bne_false, Bool.bne_true, Nat.reduceLT, Int.reduceLT, Int.reduceLE, Int.reduceEq, Int.reduceToNat, List.length_replicate, List.isEmpty_cons, List.isEmpty_nil, Nat.le_refl, Int.le_refl, Int.sub_zero, Int.sub_self, ne_eq, List.length_append, Int.toNat_zero, Nat.zero_mul, Nat.mul_one, Nat.one_mul, Nat.reduceMul]
            refine wends (by first | exact Or.inl rfl | exact Or.inr rfl) ?_ (by first | rfl | simp [AV.ids, idsL])
            simp only [go_sem, r_ref09_class, hkp, ↓reduceIte, Nat.reduceEqDiff, Nat.reduceAdd, Nat.reduceLeDiff, reduceCtorEq, Int.natCast_nonneg, List.getElem?_map, Int.toNat_natCast, List.length_map, List.replicate_zero, Bool.bne_false, Bool.bne_true, Nat.reduceLT, Int.reduceLT, Int.reduceLE, Int.reduceEq, Int.reduceToNat, List.length_replicate, List.isEmpty_cons, List.isEmpty_nil, Nat.le_refl, Int.le_refl, Int.sub_zero, Int.sub_self, ne_eq, List.length_append, Int.toNat_zero, Nat.zero_mul, Nat.mul_one, Nat.one_mul, Nat.reduceMul]
            simp

end Go.Proofs.Ytgnokggmbkhnbaa
