/- A configuration parsed, the document's way: the contract. No statement of the seat is proved here. -/
import Derived.Test.YtbkchhjdjijhkaaDoorCfParse
import Derived.Test.YtbkchhjdjijhkaaDoorCfRef2
import Derived.Test.YtbkchhjdjijhkaaDoorSxH
set_option linter.unusedSimpArgs false
set_option linter.unusedVariables false
namespace Go.Proofs.YtbkchhjdjijhkaaDoor
open Go Go.Sx

/-- Several ways into one state. -/
theorem joinP {A P G : Prop} (hh : (A → P) → G) (key : A → P) : G := hh key

theorem two_form (l : List UInt8) : l = [] ∨ (∃ b, l = [b]) ∨ ∃ a m b, l = a :: (m ++ [b]) := by
  cases l with
  | nil => exact .inl rfl
  | cons a l =>
    by_cases h : l = []
    · subst h; exact .inr (.inl ⟨a, rfl⟩)
    · obtain ⟨i, b, rfl⟩ := snoc_of h
      exact .inr (.inr ⟨a, i, b, rfl⟩)

theorem sec_short (l : List UInt8) (h : l.length < 2) : cfSecB l = false := by
  rcases two_form l with rfl | ⟨b, rfl⟩ | ⟨a, m, b, rfl⟩
  · rfl
  · unfold cfSecB frontB lastB headB
    by_cases hb : b = 91
    · subst hb; decide
    · have : (some b == some (91 : UInt8)) = false := by simpa using hb
      simp only [List.head?_cons, this, Bool.false_and]
  · exact absurd h (by simp)

theorem sec_two (a b : UInt8) (m : List UInt8) : cfSecB (a :: (m ++ [b])) = ((a == 91) && ((b == 93) && cfNamed m)) := by
  unfold cfSecB cfSecN frontB headB
  by_cases ha : a = 91
  · subst ha
    have e : (some (91 : UInt8) == some 91) = true := by decide
    have e2 : ((91 : UInt8) == 91) = true := by decide
    simp only [List.head?_cons, e, e2, ↓reduceIte, List.tail_cons, last_snoc, strip_eq]
    cases hb : b == 93
    · simp
    · simp
  · have : (some a == some (91 : UInt8)) = false := by simpa using ha
    have h2 : (a == 91) = false := by simpa using ha
    simp only [List.head?_cons, this, h2, Bool.false_and]

theorem secN_two (m : List UInt8) : cfSecN (91 :: (m ++ [93])) = m := by
  have e : headB 91 (91 :: (m ++ [93])) = true := rfl
  have e2 : ((93 : UInt8) == 93) = true := by decide
  unfold cfSecN frontB
  simp only [e, ↓reduceIte, List.tail_cons, strip_eq, last_snoc, e2]
  simp

/-- How a line stands, when the document asks whether it begins a section. -/
theorem sec_form (l : List UInt8) :
    (cfSecB l = false ∧ l.length < 2) ∨
    (cfSecB l = false ∧ ∃ n a, l.length = n + 2 ∧ l[0]? = some a ∧ a ≠ 91) ∨
    (cfSecB l = false ∧ ∃ n b, l.length = n + 2 ∧ l[0]? = some 91 ∧ l[n + 1]? = some b ∧ b ≠ 93) ∨
    (cfSecB l = false ∧ ∃ n m, l.length = n + 2 ∧ l[0]? = some 91 ∧ l[n + 1]? = some 93 ∧ (l.take (n + 1)).drop 1 = m ∧ cfNamed m = false) ∨
    (cfSecB l = true ∧ ∃ n m, l.length = n + 2 ∧ l[0]? = some 91 ∧ l[n + 1]? = some 93 ∧ (l.take (n + 1)).drop 1 = m ∧ cfNamed m = true ∧ cfSecN l = m) := by
  by_cases h : l.length < 2
  · exact .inl ⟨sec_short l h, h⟩
  rcases two_form l with rfl | ⟨b, rfl⟩ | ⟨a, m, b, rfl⟩
  · exact absurd (by decide) h
  · exact absurd (by simp) h
  have hl : (a :: (m ++ [b])).length = m.length + 2 := by simp
  have hg : (a :: (m ++ [b]))[m.length + 1]? = some b := by simp
  have ht : ((a :: (m ++ [b])).take (m.length + 1)).drop 1 = m := by simp
  have hs := sec_two a b m
  by_cases ha : a = 91
  · subst ha
    by_cases hb : b = 93
    · subst hb
      cases hn : cfNamed m
      · exact .inr (.inr (.inr (.inl ⟨by rw [hs, hn]; rfl, m.length, m, hl, rfl, hg, ht, hn⟩)))
      · exact .inr (.inr (.inr (.inr ⟨by rw [hs, hn]; rfl, m.length, m, hl, rfl, hg, ht, hn, secN_two m⟩)))
    · have : (b == 93) = false := by simpa using hb
      exact .inr (.inr (.inl ⟨by rw [hs, this]; simp, m.length, b, hl, rfl, hg, hb⟩))
  · have : (a == 91) = false := by simpa using ha
    exact .inr (.inl ⟨by rw [hs, this]; rfl, m.length, a, hl, rfl, ha⟩)

theorem cut_pair (l : List UInt8) : cfCut l = cfPair l ∨ ((cfPair l).2 = false ∧ (cfCut l).2 = false) := by
  unfold cfCut
  by_cases h : 0 ≤ Lib.indexByte l 61
  · rw [if_pos h]; exact .inl rfl
  · rw [if_neg h]; refine .inr ⟨?_, rfl⟩
    unfold cfPair; rw [if_neg h]

theorem cfStep_cut (st : CfSt) (l : List UInt8) (h : cfSecB l = false) : cfStep st l = (match st with
    | none => .error 7
    | some (d, n, ks) => if (cfCut l).2 = false then .error 7 else if (cfGet ks (cfCut l).1.1).isSome then .error 5 else if ks.length = 16 then .error 11 else .ok (some (d, n, ks ++ [(cfCut l).1]))) := by
  rw [cfStep_eq, h, if_neg (by decide)]
  rcases cut_pair l with e | ⟨e1, e2⟩
  · rw [e]; cases st <;> rfl
  · cases st with
    | none => rfl
    | some q => obtain ⟨d, n, ks⟩ := q; simp only [e1, e2, if_true]

set_option maxHeartbeats 4000000 in
theorem f_ref11_Parse (t : List UInt8) (ht : t.length ≤ 1000000000) : Meets Tryd.prog E0 n_ref11_Parse [Str (toB t)] [] (.tp [secsV (cfParse t).1, I (cfParse t).2]) [] := by
  refine m_ref11_Parse (by simp) (shut0 rfl) (shut0 rfl) (by simp) (by simp [keysOf]) ?_
  have hp : cfParse t = if 4096 < t.length then ([], 12) else match cfGo (cfLines t) none with
    | .error e => ([], e)
    | .ok st => (cfAll st, 0) := rfl
  by_cases hlong : 4096 < t.length
  · have d0 : decide ((4096 : Int) < (t.length : Int)) = true := decide_eq_true (by omega)
    rw [if_pos hlong] at hp
    rw [hp]
    unfold secsV
    simp only [go_sem, s_ref11_Parse, toB_size, d0, ↓reduceIte, Nat.reduceEqDiff, Nat.reduceAdd, Nat.reduceLeDiff, reduceCtorEq, Nat.reduceLT, Int.reduceLT, Int.reduceLE, Int.reduceEq, Int.reduceToNat, Nat.reduceMul]
    refine wends2 [] [] (by first | exact Or.inl rfl | exact Or.inr rfl) ?_ (by simp [AV.ids, idsL]) (by simp [stoS]) (by simp [keysOf]) (by simp [stoOf, keysOf] <;> assumption) (by simp [keysOf]) (by simp [keysOf])
    simp only [go_sem, r_ref11_Parse, exists_eq_left', Option.some.injEq, ↓reduceIte, Nat.reduceEqDiff, Nat.reduceAdd, Nat.reduceLeDiff, reduceCtorEq, Nat.reduceLT, Int.reduceLT, Int.reduceLE, Int.reduceEq, Int.reduceToNat, Nat.reduceMul]
    simp [wkV, wkL, slTrees, AV.asOwn, rowPart, stoOf, AV.isNil, shA, rowsT, cellsT, cellT]
  · have d0 : decide ((4096 : Int) < (t.length : Int)) = false := decide_eq_false (by omega)
    rw [if_neg hlong] at hp
    have hL := f_ref11_Lines t (by omega)
    have hll := lines_len t
    have hlv : linesV (cfLines t) = .t (.sl 1 ((cfLines t).map fun x => rowS (toB x))) := rfl
    rw [hlv] at hL
    generalize cfLines t = ls at *
    have hlen : (ls.map fun x => rowS (toB x)).length = ls.length := by simp
    simp only [go_sem, s_ref11_Parse, toB_size, d0, ↓reduceIte, Nat.reduceEqDiff, Nat.reduceAdd, Nat.reduceLeDiff, reduceCtorEq, Nat.reduceLT, Int.reduceLT, Int.reduceLE, Int.reduceEq, Int.reduceToNat, Nat.reduceMul]
    refine Cl_plain hL ?_
    simp only [go_sem, hlen, ↓reduceIte, Nat.reduceEqDiff, Nat.reduceAdd, Nat.reduceLeDiff, reduceCtorEq, Nat.reduceLT, Int.reduceLT, Int.reduceLE, Int.reduceEq, Int.reduceToNat, Nat.reduceMul]
    refine W_loop (fun i : Nat × CfSt => ls.length - i.1) (fun i => i.1 ≤ ls.length ∧ stLen i.2 ≤ i.1 ∧ cfGo (ls.drop i.1) i.2 = cfGo ls none)
      (fun i => [(4, .t (.sl 1 (ls.map fun x => rowS (toB x)))), (5, stV i.2), (6, I i.1)]) (fun i => [(999, stA i.2), (998, stB i.2)]) (0, none) ⟨Nat.zero_le _, Nat.le_refl _, by simp⟩ ?_ ?_
    · simp only [stV, stA, stB]
      exact (subL [(999, 888), (998, 887)] [] (by simp [envS, go_sem, wkV, wkL, AV.ids, idsL, keysOf, ren, stoOf, slTrees, AV.asOwn, rowPart, AV.isNil, shA, rowsT, cellsT, cellT, wkLL, rowS, linesV, pairT, secT, secsV, List.take_of_length_le] <;> assumption) (by simp [stoS, go_sem, wkV, wkL, wkO, AV.ids, Ob.ids, idsL, keysOf, ren, AV.one, stoOf, slTrees, AV.asOwn, rowPart, AV.isNil, shA, rowsT, cellsT, cellT, wkLL, rowS, linesV, pairT, secT, secsV, List.take_of_length_le] <;> assumption) (by simp [keysOf, ren]) (by simp [stoOf, keysOf, ren]) (by simp [keysOf, ren]) (by simp [keysOf, ren]))
    · rintro ⟨i, st⟩ ⟨hi, hsl, hgo⟩
      simp only at hi hsl hgo
      by_cases hil : i < ls.length
      · have d1 : decide (i < ls.length) = true := decide_eq_true hil
        obtain ⟨l, hl⟩ := get_of_lt hil
        have hg : (ls.map fun x => rowS (toB x))[i]? = some (rowS (toB l)) := by rw [List.getElem?_map, hl]; rfl
        have hl0 := hll.2 l (List.mem_of_getElem? hl)
        have ei : IntKind.i64.wrap ((i : Int) + 1) = ((i + 1 : Nat) : Int) := by rw [wrap_i64_of (by omega) (by omega)]; omega
        have hcut := f_ref11_cut l (by omega)
        rw [drop_get hl] at hgo
        have herr : ∀ e, cfStep st l = .error e → cfParse t = ([], e) := fun e h => by rw [hp, ← hgo, goS_none _ e _ _ h]
        have hok : ∀ st', cfStep st l = .ok st' → cfGo (ls.drop (i + 1)) st' = cfGo ls none := fun st' h => by rw [← hgo, goS_some _ _ _ _ h]
        have hstep := cfStep_eq st l
        apply joinP (A := cfSecB l = false)
        · intro key
          rcases sec_form l with ⟨hsb, h2⟩ | ⟨hsb, n2, a2, h2, hg2, hne⟩ | ⟨hsb, n2, b2, h2, hg2, hg3, hne⟩ | ⟨hsb, n2, m2, h2, hg2, hg3, hm2, hnm⟩ | ⟨hsb, n2, m2, h2, hg2, hg3, hm2, hnm, hsn⟩
          case inr.inr.inr.inr =>
            rw [hsb, if_pos rfl] at hstep
            have d2 : decide ((2 : Int) ≤ ((n2 + 2 : Nat) : Int)) = true := decide_eq_true (by omega)
            have w2 : IntKind.i64.wrap (((n2 + 2 : Nat) : Int) - 1) = ((n2 + 1 : Nat) : Int) := by rw [wrap_i64_of (by omega) (by omega)]; omega
            have q2 : (toB l)[0]? = some 91 := by rw [getT]; exact hg2
            have q3 : (toB l)[n2 + 1]? = some 93 := by rw [getT]; exact hg3
            have x2 : (toB l).extract 1 (n2 + 1) = toB m2 := by rw [extT, hm2]
            have c2 : (((n2 + 1 : Nat) : Int) ≤ ((n2 + 2 : Nat) : Int)) = True := eq_true (by omega)
            have c3 : ((1 : Int) ≤ ((n2 + 1 : Nat) : Int)) = True := eq_true (by omega)
            have d3 : decide (UInt8.toNat 91 = 91) = true := rfl
            have d4 : decide (UInt8.toNat 93 = 93) = true := rfl
            have hm2l : m2.length ≤ l.length := by rw [← hm2]; simp; omega
            have hN := f_ref11_named m2 (by omega)
            rw [hsn] at hstep
            simp only [go_sem, s_ref11_Parse_b0, d1, hg, rowS_get, toB_size, h2, d2, w2, q2, q3, x2, c2, c3, d3, d4, ↓reduceIte, Nat.reduceEqDiff, Nat.reduceAdd, Nat.reduceLeDiff, reduceCtorEq, Nat.reduceLT, Int.reduceLT, Int.reduceLE, Int.reduceEq, Int.reduceToNat, Nat.reduceMul]
            refine Cl_plain hN ?_
            simp only [go_sem, hnm, d1, hg, rowS_get, toB_size, h2, d2, w2, q2, q3, x2, c2, c3, d3, d4, ↓reduceIte, Nat.reduceEqDiff, Nat.reduceAdd, Nat.reduceLeDiff, reduceCtorEq, Nat.reduceLT, Int.reduceLT, Int.reduceLE, Int.reduceEq, Int.reduceToNat, Nat.reduceMul]
            have hal : (cfAll st).length ≤ i := by
              cases st with
              | none => simp [cfAll]
              | some q => obtain ⟨d, n, ks⟩ := q; simp only [stLen] at hsl; simp [cfAll]; omega
            have hH := f_ref11_has (cfAll st) m2 (by omega)
            cases st with
            | none =>
              have hst := hok _ hstep
              have hH : Meets Tryd.prog E0 n_ref11_has [.t (.sl 2 []), Str (toB m2)] [] (Bo false) [] := hH
              have d5 : decide (((0 : Nat) : Int) = 16) = false := rfl
              simp only [stV, stA, stB]
              (try simp only [go_sem, ↓reduceIte, Nat.reduceEqDiff, Nat.reduceAdd, Nat.reduceLeDiff, reduceCtorEq, Nat.reduceLT, Int.reduceLT, Int.reduceLE, Int.reduceEq, Int.reduceToNat, Nat.reduceMul])
              refine Cl_keep [] hH ?_ (by simp) rfl ?_
              · exact .one (Wk.gone (by simp [slTrees, AV.asOwn, rowPart, stoOf]) (by simp [stoOf]; rfl)) (.one (Wk.refl _) .nil)
              have b0 : ((40 : Nat) ≤ 2 ^ 47) = True := eq_true (by decide)
              simp only [go_sem, d5, b0, ei, ↓reduceIte, Nat.reduceEqDiff, Nat.reduceAdd, Nat.reduceLeDiff, reduceCtorEq, Nat.reduceLT, Int.reduceLT, Int.reduceLE, Int.reduceEq, Int.reduceToNat, Nat.reduceMul]
              refine rd_of (i + 1, some ([], m2, [])) (by first | omega | (simp only; omega)) ⟨hil, by simp only [stLen]; simp, hst⟩ ?_
              simp only [stV, stA, stB, List.length_nil, List.map_nil, List.nil_append, List.isEmpty_nil, Bool.not_true, Nat.zero_add]
              exact (subL [(999, 165), (998, 886)] [] (by simp [envS, go_sem, wkV, wkL, AV.ids, idsL, keysOf, ren, stoOf, slTrees, AV.asOwn, rowPart, AV.isNil, shA, rowsT, cellsT, cellT, wkLL, rowS, linesV, pairT, secT, secsV, List.take_of_length_le] <;> assumption) (by simp [stoS, go_sem, wkV, wkL, wkO, AV.ids, Ob.ids, idsL, keysOf, ren, AV.one, stoOf, slTrees, AV.asOwn, rowPart, AV.isNil, shA, rowsT, cellsT, cellT, wkLL, rowS, linesV, pairT, secT, secsV, List.take_of_length_le] <;> assumption) (by simp [keysOf, ren]) (by simp [stoOf, keysOf, ren]) (by simp [keysOf, ren]) (by simp [keysOf, ren]))
            | some q =>
              obtain ⟨d, n, ks⟩ := q
              have hH : Meets Tryd.prog E0 n_ref11_has [.t (.sl 2 ((d ++ [(n, ks)]).map secT)), Str (toB m2)] [] (Bo (cfHas (d ++ [(n, ks)]) m2)) [] := hH
              have hstep : cfStep (some (d, n, ks)) l = if cfHas (d ++ [(n, ks)]) m2 then .error 5 else if (d ++ [(n, ks)]).length = 16 then .error 11 else .ok (some (d ++ [(n, ks)], m2, [])) := hstep
              have hdl : (d ++ [(n, ks)]).length = d.length + 1 := by simp
              rw [hdl] at hstep
              simp only [stLen] at hsl
              simp only [stV, stA, stB]
              have b4 : (d.length + 1 + 1) * 40 ≤ 2 ^ 47 := by omega
              have b5 : d.length + 1 + 1 < 2 ^ 47 := by omega
              have hlm : ((d.map secT).map (List.map AV.t) ++ [[Str (toB n), .own 998 2 0 ks.length (!ks.isEmpty)]]).length = d.length + 1 := by simp
              cases ks with
              | nil =>
                simp only [go_sem, ↓reduceIte, Nat.reduceEqDiff, Nat.reduceAdd, Nat.reduceLeDiff, reduceCtorEq, Nat.reduceLT, Int.reduceLT, Int.reduceLE, Int.reduceEq, Int.reduceToNat, Nat.reduceMul]
                refine Cl_keep [999] hH ?_ (by simp [stoOf]) rfl ?_
                · exact .one (Wk.rowA (by simp) (by simp [shA, rowsT, cellsT, cellT, stoOf, secT])) (.one (Wk.refl _) .nil)
                cases hh : cfHas (d ++ [(n, [])]) m2
                · rw [hh, if_neg (by decide)] at hstep
                  by_cases h16 : d.length + 1 = 16
                  · have he := herr 11 (by rw [hstep, if_pos h16])
                    rw [he]
                    unfold secsV
                    have d6 : decide (((d.length + 1 : Nat) : Int) = 16) = true := decide_eq_true (by omega)
                    simp only [go_sem, d6, ↓reduceIte, Nat.reduceEqDiff, Nat.reduceAdd, Nat.reduceLeDiff, reduceCtorEq, Nat.reduceLT, Int.reduceLT, Int.reduceLE, Int.reduceEq, Int.reduceToNat, Nat.reduceMul]
                    refine wends2 [] [] (by first | exact Or.inl rfl | exact Or.inr rfl) ?_ (by simp [AV.ids, idsL]) (by simp [stoS]) (by simp [keysOf]) (by simp [stoOf, keysOf] <;> assumption) (by simp [keysOf]) (by simp [keysOf])
                    simp only [go_sem, r_ref11_Parse, exists_eq_left', Option.some.injEq, ↓reduceIte, Nat.reduceEqDiff, Nat.reduceAdd, Nat.reduceLeDiff, reduceCtorEq, Nat.reduceLT, Int.reduceLT, Int.reduceLE, Int.reduceEq, Int.reduceToNat, Nat.reduceMul]
                    simp [wkV, wkL, slTrees, AV.asOwn, rowPart, stoOf, AV.isNil, shA, rowsT, cellsT, cellT]
                  · have hst := hok _ (by rw [hstep, if_neg h16])
                    have d6 : decide (((d.length + 1 : Nat) : Int) = 16) = false := decide_eq_false (by omega)
                    simp only [go_sem, d6, b4, b5, ei, ↓reduceIte, Nat.reduceEqDiff, Nat.reduceAdd, Nat.reduceLeDiff, reduceCtorEq, Nat.reduceLT, Int.reduceLT, Int.reduceLE, Int.reduceEq, Int.reduceToNat, Nat.reduceMul]
                    refine rd_of (i + 1, some (d ++ [(n, [])], m2, [])) (by first | omega | (simp only; omega)) ⟨hil, by simp only [stLen]; simp; simp at hsl; omega, hst⟩ ?_
                    simp only [stV, stA, stB, List.length_append, List.length_cons, List.length_nil, Nat.zero_add, List.isEmpty_nil, Bool.not_true, List.map_nil]
                    exact (subL [(999, 165), (998, 886)] [] (by simp [envS, go_sem, wkV, wkL, AV.ids, idsL, keysOf, ren, stoOf, slTrees, AV.asOwn, rowPart, AV.isNil, shA, rowsT, cellsT, cellT, wkLL, rowS, linesV, pairT, secT, secsV, List.take_of_length_le] <;> assumption) (by simp [stoS, go_sem, wkV, wkL, wkO, AV.ids, Ob.ids, idsL, keysOf, ren, AV.one, stoOf, slTrees, AV.asOwn, rowPart, AV.isNil, shA, rowsT, cellsT, cellT, wkLL, rowS, linesV, pairT, secT, secsV, List.take_of_length_le] <;> assumption) (by simp [keysOf, ren]) (by simp [stoOf, keysOf, ren]) (by simp [keysOf, ren]) (by simp [keysOf, ren]))
                · have he := herr 5 (by rw [hstep, hh]; rfl)
                  rw [he]
                  unfold secsV
                  simp only [go_sem, ↓reduceIte, Nat.reduceEqDiff, Nat.reduceAdd, Nat.reduceLeDiff, reduceCtorEq, Nat.reduceLT, Int.reduceLT, Int.reduceLE, Int.reduceEq, Int.reduceToNat, Nat.reduceMul]
                  refine wends2 [] [] (by first | exact Or.inl rfl | exact Or.inr rfl) ?_ (by simp [AV.ids, idsL]) (by simp [stoS]) (by simp [keysOf]) (by simp [stoOf, keysOf] <;> assumption) (by simp [keysOf]) (by simp [keysOf])
                  simp only [go_sem, r_ref11_Parse, exists_eq_left', Option.some.injEq, ↓reduceIte, Nat.reduceEqDiff, Nat.reduceAdd, Nat.reduceLeDiff, reduceCtorEq, Nat.reduceLT, Int.reduceLT, Int.reduceLE, Int.reduceEq, Int.reduceToNat, Nat.reduceMul]
                  simp [wkV, wkL, slTrees, AV.asOwn, rowPart, stoOf, AV.isNil, shA, rowsT, cellsT, cellT]
              | cons k0 ks =>
                simp only [go_sem, ↓reduceIte, Nat.reduceEqDiff, Nat.reduceAdd, Nat.reduceLeDiff, reduceCtorEq, Nat.reduceLT, Int.reduceLT, Int.reduceLE, Int.reduceEq, Int.reduceToNat, Nat.reduceMul]
                refine Cl_keep [999, 998] hH ?_ (by simp [stoOf]) rfl ?_
                · exact .one (Wk.rowA (by simp) (by simp [shA, rowsT, cellsT, cellT, stoOf, secT, rowPart, List.take_of_length_le])) (.one (Wk.refl _) .nil)
                cases hh : cfHas (d ++ [(n, k0 :: ks)]) m2
                · rw [hh, if_neg (by decide)] at hstep
                  by_cases h16 : d.length + 1 = 16
                  · have he := herr 11 (by rw [hstep, if_pos h16])
                    rw [he]
                    unfold secsV
                    have d6 : decide (((d.length + 1 : Nat) : Int) = 16) = true := decide_eq_true (by omega)
                    simp only [go_sem, d6, ↓reduceIte, Nat.reduceEqDiff, Nat.reduceAdd, Nat.reduceLeDiff, reduceCtorEq, Nat.reduceLT, Int.reduceLT, Int.reduceLE, Int.reduceEq, Int.reduceToNat, Nat.reduceMul]
                    refine wends2 [] [] (by first | exact Or.inl rfl | exact Or.inr rfl) ?_ (by simp [AV.ids, idsL]) (by simp [stoS]) (by simp [keysOf]) (by simp [stoOf, keysOf] <;> assumption) (by simp [keysOf]) (by simp [keysOf])
                    simp only [go_sem, r_ref11_Parse, exists_eq_left', Option.some.injEq, ↓reduceIte, Nat.reduceEqDiff, Nat.reduceAdd, Nat.reduceLeDiff, reduceCtorEq, Nat.reduceLT, Int.reduceLT, Int.reduceLE, Int.reduceEq, Int.reduceToNat, Nat.reduceMul]
                    simp [wkV, wkL, slTrees, AV.asOwn, rowPart, stoOf, AV.isNil, shA, rowsT, cellsT, cellT]
                  · have hst := hok _ (by rw [hstep, if_neg h16])
                    have d6 : decide (((d.length + 1 : Nat) : Int) = 16) = false := decide_eq_false (by omega)
                    simp only [go_sem, d6, b4, b5, ei, ↓reduceIte, Nat.reduceEqDiff, Nat.reduceAdd, Nat.reduceLeDiff, reduceCtorEq, Nat.reduceLT, Int.reduceLT, Int.reduceLE, Int.reduceEq, Int.reduceToNat, Nat.reduceMul]
                    refine rd_of (i + 1, some (d ++ [(n, k0 :: ks)], m2, [])) (by first | omega | (simp only; omega)) ⟨hil, by simp only [stLen]; simp; simp at hsl; omega, hst⟩ ?_
                    simp only [stV, stA, stB, List.length_append, List.length_cons, List.length_nil, Nat.zero_add, List.isEmpty_nil, Bool.not_true, List.map_nil]
                    exact (subL [(999, 165), (998, 886)] [998] (by simp [envS, go_sem, wkV, wkL, AV.ids, idsL, keysOf, ren, stoOf, slTrees, AV.asOwn, rowPart, AV.isNil, shA, rowsT, cellsT, cellT, wkLL, rowS, linesV, pairT, secT, secsV, List.take_of_length_le] <;> assumption) (by simp [stoS, go_sem, wkV, wkL, wkO, AV.ids, Ob.ids, idsL, keysOf, ren, AV.one, stoOf, slTrees, AV.asOwn, rowPart, AV.isNil, shA, rowsT, cellsT, cellT, wkLL, rowS, linesV, pairT, secT, secsV, List.take_of_length_le] <;> assumption) (by simp [keysOf, ren]) (by simp [stoOf, keysOf, ren]) (by simp [keysOf, ren]) (by simp [keysOf, ren]))
                · have he := herr 5 (by rw [hstep, hh]; rfl)
                  rw [he]
                  unfold secsV
                  simp only [go_sem, ↓reduceIte, Nat.reduceEqDiff, Nat.reduceAdd, Nat.reduceLeDiff, reduceCtorEq, Nat.reduceLT, Int.reduceLT, Int.reduceLE, Int.reduceEq, Int.reduceToNat, Nat.reduceMul]
                  refine wends2 [] [] (by first | exact Or.inl rfl | exact Or.inr rfl) ?_ (by simp [AV.ids, idsL]) (by simp [stoS]) (by simp [keysOf]) (by simp [stoOf, keysOf] <;> assumption) (by simp [keysOf]) (by simp [keysOf])
                  simp only [go_sem, r_ref11_Parse, exists_eq_left', Option.some.injEq, ↓reduceIte, Nat.reduceEqDiff, Nat.reduceAdd, Nat.reduceLeDiff, reduceCtorEq, Nat.reduceLT, Int.reduceLT, Int.reduceLE, Int.reduceEq, Int.reduceToNat, Nat.reduceMul]
                  simp [wkV, wkL, slTrees, AV.asOwn, rowPart, stoOf, AV.isNil, shA, rowsT, cellsT, cellT]
          case inl =>
            have d2 : decide ((2 : Int) ≤ (l.length : Int)) = false := decide_eq_false (by omega)
            simp only [go_sem, s_ref11_Parse_b0, d1, hg, rowS_get, toB_size, d2, ↓reduceIte, Nat.reduceEqDiff, Nat.reduceAdd, Nat.reduceLeDiff, reduceCtorEq, Nat.reduceLT, Int.reduceLT, Int.reduceLE, Int.reduceEq, Int.reduceToNat, Nat.reduceMul]
            exact key hsb
          case inr.inl =>
            have d2 : decide ((2 : Int) ≤ ((n2 + 2 : Nat) : Int)) = true := decide_eq_true (by omega)
            have q2 : (toB l)[0]? = some a2 := by rw [getT]; exact hg2
            have d3 : decide (a2.toNat = 91) = false := decide_eq_false (fun e => hne (UInt8.toNat_inj.1 e))
            simp only [go_sem, s_ref11_Parse_b0, d1, hg, rowS_get, toB_size, h2, d2, q2, d3, ↓reduceIte, Nat.reduceEqDiff, Nat.reduceAdd, Nat.reduceLeDiff, reduceCtorEq, Nat.reduceLT, Int.reduceLT, Int.reduceLE, Int.reduceEq, Int.reduceToNat, Nat.reduceMul]
            exact key hsb
          case inr.inr.inl =>
            have d2 : decide ((2 : Int) ≤ ((n2 + 2 : Nat) : Int)) = true := decide_eq_true (by omega)
            have w2 : IntKind.i64.wrap (((n2 + 2 : Nat) : Int) - 1) = ((n2 + 1 : Nat) : Int) := by rw [wrap_i64_of (by omega) (by omega)]; omega
            have q2 : (toB l)[0]? = some 91 := by rw [getT]; exact hg2
            have q3 : (toB l)[n2 + 1]? = some b2 := by rw [getT]; exact hg3
            have d3 : decide (UInt8.toNat 91 = 91) = true := rfl
            have d4 : decide (b2.toNat = 93) = false := decide_eq_false (fun e => hne (UInt8.toNat_inj.1 e))
            simp only [go_sem, s_ref11_Parse_b0, d1, hg, rowS_get, toB_size, h2, d2, w2, q2, q3, d3, d4, ↓reduceIte, Nat.reduceEqDiff, Nat.reduceAdd, Nat.reduceLeDiff, reduceCtorEq, Nat.reduceLT, Int.reduceLT, Int.reduceLE, Int.reduceEq, Int.reduceToNat, Nat.reduceMul]
            exact key hsb
          case inr.inr.inr.inl =>
            have d2 : decide ((2 : Int) ≤ ((n2 + 2 : Nat) : Int)) = true := decide_eq_true (by omega)
            have w2 : IntKind.i64.wrap (((n2 + 2 : Nat) : Int) - 1) = ((n2 + 1 : Nat) : Int) := by rw [wrap_i64_of (by omega) (by omega)]; omega
            have q2 : (toB l)[0]? = some 91 := by rw [getT]; exact hg2
            have q3 : (toB l)[n2 + 1]? = some 93 := by rw [getT]; exact hg3
            have x2 : (toB l).extract 1 (n2 + 1) = toB m2 := by rw [extT, hm2]
            have c2 : (((n2 + 1 : Nat) : Int) ≤ ((n2 + 2 : Nat) : Int)) = True := eq_true (by omega)
            have c3 : ((1 : Int) ≤ ((n2 + 1 : Nat) : Int)) = True := eq_true (by omega)
            have d3 : decide (UInt8.toNat 91 = 91) = true := rfl
            have d4 : decide (UInt8.toNat 93 = 93) = true := rfl
            have hm2l : m2.length ≤ l.length := by rw [← hm2]; simp; omega
            have hN := f_ref11_named m2 (by omega)
            simp only [go_sem, s_ref11_Parse_b0, d1, hg, rowS_get, toB_size, h2, d2, w2, q2, q3, x2, c2, c3, d3, d4, ↓reduceIte, Nat.reduceEqDiff, Nat.reduceAdd, Nat.reduceLeDiff, reduceCtorEq, Nat.reduceLT, Int.reduceLT, Int.reduceLE, Int.reduceEq, Int.reduceToNat, Nat.reduceMul]
            refine Cl_plain hN ?_
            simp only [go_sem, hnm, ↓reduceIte, Nat.reduceEqDiff, Nat.reduceAdd, Nat.reduceLeDiff, reduceCtorEq, Nat.reduceLT, Int.reduceLT, Int.reduceLE, Int.reduceEq, Int.reduceToNat, Nat.reduceMul]
            exact key hsb
        · intro hsb
          replace hstep := cfStep_cut st l hsb
          refine Cl_plain hcut ?_
          generalize cfCut l = p at *
          obtain ⟨⟨pk, pv⟩, pb⟩ := p
          simp only at hstep hcut ⊢
          cases st with
          | none =>
            have he := herr 7 hstep
            rw [he]
            unfold secsV
            simp only [stV, stA, stB]
            cases pb
            · simp only [go_sem, ↓reduceIte, Nat.reduceEqDiff, Nat.reduceAdd, Nat.reduceLeDiff, reduceCtorEq, Nat.reduceLT, Int.reduceLT, Int.reduceLE, Int.reduceEq, Int.reduceToNat, Nat.reduceMul]
              ((try (with_reducible refine R_fin (by repeat' (first | exact okp0 | refine okp rfl rfl rfl ?_)) ?_)); (try simp only [go_sem, ↓reduceIte, Nat.reduceEqDiff, Nat.reduceAdd, Nat.reduceLeDiff, reduceCtorEq, Nat.reduceLT, Int.reduceLT, Int.reduceLE, Int.reduceEq, Int.reduceToNat, Nat.reduceMul]))
              refine wends2 [] [] (by first | exact Or.inl rfl | exact Or.inr rfl) ?_ (by simp [AV.ids, idsL]) (by simp [stoS]) (by simp [keysOf]) (by simp [stoOf, keysOf] <;> assumption) (by simp [keysOf]) (by simp [keysOf])
              simp only [go_sem, r_ref11_Parse, exists_eq_left', Option.some.injEq, ↓reduceIte, Nat.reduceEqDiff, Nat.reduceAdd, Nat.reduceLeDiff, reduceCtorEq, Nat.reduceLT, Int.reduceLT, Int.reduceLE, Int.reduceEq, Int.reduceToNat, Nat.reduceMul]
              simp [wkV, wkL, slTrees, AV.asOwn, rowPart, stoOf, AV.isNil, shA, rowsT, cellsT, cellT]
            · have d2 : decide (((0 : Nat) : Int) = 0) = true := rfl
              simp only [go_sem, d2, ↓reduceIte, Nat.reduceEqDiff, Nat.reduceAdd, Nat.reduceLeDiff, reduceCtorEq, Nat.reduceLT, Int.reduceLT, Int.reduceLE, Int.reduceEq, Int.reduceToNat, Nat.reduceMul]
              ((try (with_reducible refine R_fin (by repeat' (first | exact okp0 | refine okp rfl rfl rfl ?_)) ?_)); (try simp only [go_sem, d2, ↓reduceIte, Nat.reduceEqDiff, Nat.reduceAdd, Nat.reduceLeDiff, reduceCtorEq, Nat.reduceLT, Int.reduceLT, Int.reduceLE, Int.reduceEq, Int.reduceToNat, Nat.reduceMul]))
              refine wends2 [] [] (by first | exact Or.inl rfl | exact Or.inr rfl) ?_ (by simp [AV.ids, idsL]) (by simp [stoS]) (by simp [keysOf]) (by simp [stoOf, keysOf] <;> assumption) (by simp [keysOf]) (by simp [keysOf])
              simp only [go_sem, r_ref11_Parse, exists_eq_left', Option.some.injEq, ↓reduceIte, Nat.reduceEqDiff, Nat.reduceAdd, Nat.reduceLeDiff, reduceCtorEq, Nat.reduceLT, Int.reduceLT, Int.reduceLE, Int.reduceEq, Int.reduceToNat, Nat.reduceMul]
              simp [wkV, wkL, slTrees, AV.asOwn, rowPart, stoOf, AV.isNil, shA, rowsT, cellsT, cellT]
          | some q =>
            obtain ⟨d, n, ks⟩ := q
            simp only [stLen] at hsl hstep
            cases pb
            · have he := herr 7 hstep
              rw [he]
              unfold secsV
              simp only [stV, stA, stB]
              (try simp only [go_sem, ↓reduceIte, Nat.reduceEqDiff, Nat.reduceAdd, Nat.reduceLeDiff, reduceCtorEq, Nat.reduceLT, Int.reduceLT, Int.reduceLE, Int.reduceEq, Int.reduceToNat, Nat.reduceMul])
              ((try (with_reducible refine R_fin (by repeat' (first | exact okp0 | refine okp rfl rfl rfl ?_)) ?_)); (try simp only [go_sem, ↓reduceIte, Nat.reduceEqDiff, Nat.reduceAdd, Nat.reduceLeDiff, reduceCtorEq, Nat.reduceLT, Int.reduceLT, Int.reduceLE, Int.reduceEq, Int.reduceToNat, Nat.reduceMul]))
              refine wends2 [] [] (by first | exact Or.inl rfl | exact Or.inr rfl) ?_ (by simp [AV.ids, idsL]) (by simp [stoS]) (by simp [keysOf]) (by simp [stoOf, keysOf] <;> assumption) (by simp [keysOf]) (by simp [keysOf])
              simp only [go_sem, r_ref11_Parse, exists_eq_left', Option.some.injEq, ↓reduceIte, Nat.reduceEqDiff, Nat.reduceAdd, Nat.reduceLeDiff, reduceCtorEq, Nat.reduceLT, Int.reduceLT, Int.reduceLE, Int.reduceEq, Int.reduceToNat, Nat.reduceMul]
              simp [wkV, wkL, slTrees, AV.asOwn, rowPart, stoOf, AV.isNil, shA, rowsT, cellsT, cellT]
            · simp only [stV, stA, stB]
              rw [if_neg (by decide)] at hstep
              have hG := f_ref11_Get n ks pk (by omega)
              have d2 : decide (((d.length + 1 : Nat) : Int) = 0) = false := decide_eq_false (by omega)
              have w1 : IntKind.i64.wrap (((d.length + 1 : Nat) : Int) - 1) = (d.length : Int) := by rw [wrap_i64_of (by omega) (by omega)]; omega
              have c1 : ((d.length : Int) < ((d.length + 1 : Nat) : Int)) = True := eq_true (by omega)
              have hE : ∀ x : List AV, ((d.map secT).map (List.map AV.t) ++ [x])[d.length]? = some x := by intro x; simp
              have hS : ∀ x y : List AV, ((d.map secT).map (List.map AV.t) ++ [x]).set d.length y = (d.map secT).map (List.map AV.t) ++ [y] := by intro x y; simp
              cases ks with
              | nil =>
                have hst := hok (some (d, n, [(pk, pv)])) hstep
                simp only [go_sem, d2, w1, c1, hE, ↓reduceIte, Nat.reduceEqDiff, Nat.reduceAdd, Nat.reduceLeDiff, reduceCtorEq, Nat.reduceLT, Int.reduceLT, Int.reduceLE, Int.reduceEq, Int.reduceToNat, Nat.reduceMul]
                ((try (with_reducible refine R_fin (by repeat' (first | exact okp0 | refine okp rfl rfl rfl ?_)) ?_)); (try simp only [go_sem, d2, w1, c1, hE, ↓reduceIte, Nat.reduceEqDiff, Nat.reduceAdd, Nat.reduceLeDiff, reduceCtorEq, Nat.reduceLT, Int.reduceLT, Int.reduceLE, Int.reduceEq, Int.reduceToNat, Nat.reduceMul]))
                refine Cl_keep [] hG ?_ (by simp) rfl ?_
                · exact .ag (.one (Wk.refl _) (.one (Wk.gone (by simp [slTrees, AV.asOwn, rowPart, stoOf]) (by simp [stoOf]; rfl)) .nil)) (.one (Wk.refl _) .nil)
                have g0 : (cfGet [] pk).isSome = false := rfl
                have d3 : decide (((0 : Nat) : Int) = 16) = false := rfl
                have b0 : ((32 : Nat) ≤ 2 ^ 47) = True := eq_true (by decide)
                ((try (with_reducible refine R_fin (by repeat' (first | exact okp0 | refine okp rfl rfl rfl ?_)) ?_)); (try simp only [go_sem, g0, ↓reduceIte, Nat.reduceEqDiff, Nat.reduceAdd, Nat.reduceLeDiff, reduceCtorEq, Nat.reduceLT, Int.reduceLT, Int.reduceLE, Int.reduceEq, Int.reduceToNat, Nat.reduceMul]))
                simp only [go_sem, w1, c1, hE, d3, b0, hS, ↓reduceIte, Nat.reduceEqDiff, Nat.reduceAdd, Nat.reduceLeDiff, reduceCtorEq, Nat.reduceLT, Int.reduceLT, Int.reduceLE, Int.reduceEq, Int.reduceToNat, Nat.reduceMul]
                ((try (with_reducible refine R_fin (by repeat' (first | exact okp0 | refine okp rfl rfl rfl ?_)) ?_)); (try simp only [go_sem, w1, c1, hE, d3, b0, hS, ei, ↓reduceIte, Nat.reduceEqDiff, Nat.reduceAdd, Nat.reduceLeDiff, reduceCtorEq, Nat.reduceLT, Int.reduceLT, Int.reduceLE, Int.reduceEq, Int.reduceToNat, Nat.reduceMul]))
                refine rd_of (i + 1, some (d, n, [(pk, pv)])) (by first | omega | (simp only; omega)) ⟨hil, by simp only [stLen]; simp; simp at hsl; omega, hst⟩ ?_
                simp only [stV, stA, stB]
                exact (subL [(999, 999), (998, 221)] [] (by simp [envS, go_sem, wkV, wkL, AV.ids, idsL, keysOf, ren, stoOf, slTrees, AV.asOwn, rowPart, AV.isNil, shA, rowsT, cellsT, cellT, wkLL, rowS, linesV, pairT, secT, secsV, List.take_of_length_le] <;> assumption) (by simp [stoS, go_sem, wkV, wkL, wkO, AV.ids, Ob.ids, idsL, keysOf, ren, AV.one, stoOf, slTrees, AV.asOwn, rowPart, AV.isNil, shA, rowsT, cellsT, cellT, wkLL, rowS, linesV, pairT, secT, secsV, List.take_of_length_le] <;> assumption) (by simp [keysOf, ren]) (by simp [stoOf, keysOf, ren]) (by simp [keysOf, ren]) (by simp [keysOf, ren]))
              | cons k0 ks =>
                have hcl : (k0 :: ks).length = ks.length + 1 := rfl
                have g0 : (cfGet (k0 :: ks) pk).isSome = (cfGet (k0 :: ks) pk).isSome := rfl
                generalize hgv : cfGet (k0 :: ks) pk = gv at *
                simp only [go_sem, d2, w1, c1, hE, ↓reduceIte, Nat.reduceEqDiff, Nat.reduceAdd, Nat.reduceLeDiff, reduceCtorEq, Nat.reduceLT, Int.reduceLT, Int.reduceLE, Int.reduceEq, Int.reduceToNat, Nat.reduceMul]
                ((try (with_reducible refine R_fin (by repeat' (first | exact okp0 | refine okp rfl rfl rfl ?_)) ?_)); (try simp only [go_sem, d2, w1, c1, hE, ↓reduceIte, Nat.reduceEqDiff, Nat.reduceAdd, Nat.reduceLeDiff, reduceCtorEq, Nat.reduceLT, Int.reduceLT, Int.reduceLE, Int.reduceEq, Int.reduceToNat, Nat.reduceMul]))
                refine Cl_keep [998] hG ?_ (by simp [stoOf]) rfl ?_
                · exact .ag (.one (Wk.refl _) (.one (Wk.row (by simp [slTrees, AV.asOwn, rowPart, stoOf, List.take_of_length_le]) (by simp)) .nil)) (.one (Wk.refl _) .nil)
                cases gv with
                | some v =>
                  have he := herr 5 (by rw [hstep]; rfl)
                  rw [he]
                  unfold secsV
                  ((try (with_reducible refine R_fin (by repeat' (first | exact okp0 | refine okp rfl rfl rfl ?_)) ?_)); (try simp only [go_sem, Option.isSome_some, ↓reduceIte, Nat.reduceEqDiff, Nat.reduceAdd, Nat.reduceLeDiff, reduceCtorEq, Nat.reduceLT, Int.reduceLT, Int.reduceLE, Int.reduceEq, Int.reduceToNat, Nat.reduceMul]))
                  refine wends2 [] [] (by first | exact Or.inl rfl | exact Or.inr rfl) ?_ (by simp [AV.ids, idsL]) (by simp [stoS]) (by simp [keysOf]) (by simp [stoOf, keysOf] <;> assumption) (by simp [keysOf]) (by simp [keysOf])
                  simp only [go_sem, r_ref11_Parse, exists_eq_left', Option.some.injEq, ↓reduceIte, Nat.reduceEqDiff, Nat.reduceAdd, Nat.reduceLeDiff, reduceCtorEq, Nat.reduceLT, Int.reduceLT, Int.reduceLE, Int.reduceEq, Int.reduceToNat, Nat.reduceMul]
                  simp [wkV, wkL, slTrees, AV.asOwn, rowPart, stoOf, AV.isNil, shA, rowsT, cellsT, cellT]
                | none =>
                  rw [if_neg (by decide)] at hstep
                  by_cases h16 : (k0 :: ks).length = 16
                  · have he := herr 11 (by rw [hstep, if_pos h16])
                    rw [he]
                    unfold secsV
                    have d3 : decide (((ks.length + 1 : Nat) : Int) = 16) = true := decide_eq_true (by rw [hcl] at h16; omega)
                    ((try (with_reducible refine R_fin (by repeat' (first | exact okp0 | refine okp rfl rfl rfl ?_)) ?_)); (try simp only [go_sem, Option.isSome_none, ↓reduceIte, Nat.reduceEqDiff, Nat.reduceAdd, Nat.reduceLeDiff, reduceCtorEq, Nat.reduceLT, Int.reduceLT, Int.reduceLE, Int.reduceEq, Int.reduceToNat, Nat.reduceMul]))
                    simp only [go_sem, w1, c1, hE, d3, ↓reduceIte, Nat.reduceEqDiff, Nat.reduceAdd, Nat.reduceLeDiff, reduceCtorEq, Nat.reduceLT, Int.reduceLT, Int.reduceLE, Int.reduceEq, Int.reduceToNat, Nat.reduceMul]
                    refine wends2 [] [] (by first | exact Or.inl rfl | exact Or.inr rfl) ?_ (by simp [AV.ids, idsL]) (by simp [stoS]) (by simp [keysOf]) (by simp [stoOf, keysOf] <;> assumption) (by simp [keysOf]) (by simp [keysOf])
                    simp only [go_sem, r_ref11_Parse, exists_eq_left', Option.some.injEq, ↓reduceIte, Nat.reduceEqDiff, Nat.reduceAdd, Nat.reduceLeDiff, reduceCtorEq, Nat.reduceLT, Int.reduceLT, Int.reduceLE, Int.reduceEq, Int.reduceToNat, Nat.reduceMul]
                    simp [wkV, wkL, slTrees, AV.asOwn, rowPart, stoOf, AV.isNil, shA, rowsT, cellsT, cellT]
                  · rw [if_neg h16] at hstep
                    have hst := hok _ hstep
                    have d3 : decide (((ks.length + 1 : Nat) : Int) = 16) = false := decide_eq_false (by rw [hcl] at h16; omega)
                    rw [hcl] at hsl
                    have b4 : ((ks.length + 1 + 1) * 32 ≤ 2 ^ 47) = True := eq_true (by omega)
                    have b5 : (ks.length + 1 + 1 < 2 ^ 47) = True := eq_true (by omega)
                    have em : (k0 :: ks).map pairT ++ [[.v (.string (toB pk)), .v (.string (toB pv))]] = ((k0 :: ks) ++ [(pk, pv)]).map pairT := by simp [pairT]
                    have hlm : ((k0 :: ks).map pairT).length = ks.length + 1 := by simp
                    ((try (with_reducible refine R_fin (by repeat' (first | exact okp0 | refine okp rfl rfl rfl ?_)) ?_)); (try simp only [go_sem, Option.isSome_none, ↓reduceIte, Nat.reduceEqDiff, Nat.reduceAdd, Nat.reduceLeDiff, reduceCtorEq, Nat.reduceLT, Int.reduceLT, Int.reduceLE, Int.reduceEq, Int.reduceToNat, Nat.reduceMul]))
                    simp only [go_sem, w1, c1, hE, d3, b4, b5, hS, ↓reduceIte, Nat.reduceEqDiff, Nat.reduceAdd, Nat.reduceLeDiff, reduceCtorEq, Nat.reduceLT, Int.reduceLT, Int.reduceLE, Int.reduceEq, Int.reduceToNat, Nat.reduceMul]
                    ((try (with_reducible refine R_fin (by repeat' (first | exact okp0 | refine okp rfl rfl rfl ?_)) ?_)); (try simp only [go_sem, w1, c1, hE, d3, b4, b5, hS, ei, ↓reduceIte, Nat.reduceEqDiff, Nat.reduceAdd, Nat.reduceLeDiff, reduceCtorEq, Nat.reduceLT, Int.reduceLT, Int.reduceLE, Int.reduceEq, Int.reduceToNat, Nat.reduceMul]))
                    refine rd_of (i + 1, some (d, n, k0 :: ks ++ [(pk, pv)])) (by first | omega | (simp only; omega)) ⟨hil, by simp only [stLen]; simp; omega, hst⟩ ?_
                    simp only [stV, stA, stB, List.length_append, List.length_cons, List.length_nil, Nat.zero_add, show (k0 :: ks ++ [(pk, pv)]).isEmpty = false from by simp, Bool.not_false]
                    exact (subL [(999, 999), (998, 221)] [] (by simp [envS, go_sem, wkV, wkL, AV.ids, idsL, keysOf, ren, stoOf, slTrees, AV.asOwn, rowPart, AV.isNil, shA, rowsT, cellsT, cellT, wkLL, rowS, linesV, pairT, secT, secsV, List.take_of_length_le] <;> assumption) (by simp [stoS, go_sem, wkV, wkL, wkO, AV.ids, Ob.ids, idsL, keysOf, ren, AV.one, stoOf, slTrees, AV.asOwn, rowPart, AV.isNil, shA, rowsT, cellsT, cellT, wkLL, rowS, linesV, pairT, secT, secsV, List.take_of_length_le] <;> assumption) (by simp [keysOf, ren]) (by simp [stoOf, keysOf, ren]) (by simp [keysOf, ren]) (by simp [keysOf, ren]))
      · obtain rfl : i = ls.length := by omega
        have d1 : decide (ls.length < ls.length) = false := decide_eq_false (by omega)
        rw [List.drop_length] at hgo
        have hgo' : cfGo ls none = .ok st := hgo.symm
        rw [hgo'] at hp
        simp only at hp
        rw [hp]
        unfold secsV
        cases st with
        | none =>
          simp only [stV, stA, stB, cfAll, List.map_nil]
          simp only [go_sem, s_ref11_Parse_b0, s_ref11_Parse_t1, d1, ↓reduceIte, Nat.reduceEqDiff, Nat.reduceAdd, Nat.reduceLeDiff, reduceCtorEq, Nat.reduceLT, Int.reduceLT, Int.reduceLE, Int.reduceEq, Int.reduceToNat, Nat.reduceMul]
          refine wends2 [] [] (by first | exact Or.inl rfl | exact Or.inr rfl) ?_ (by simp [AV.ids, idsL]) (by simp [stoS]) (by simp [keysOf]) (by simp [stoOf, keysOf] <;> assumption) (by simp [keysOf]) (by simp [keysOf])
          simp only [go_sem, r_ref11_Parse, exists_eq_left', Option.some.injEq, ↓reduceIte, Nat.reduceEqDiff, Nat.reduceAdd, Nat.reduceLeDiff, reduceCtorEq, Nat.reduceLT, Int.reduceLT, Int.reduceLE, Int.reduceEq, Int.reduceToNat, Nat.reduceMul]
          simp [wkV, wkL, slTrees, AV.asOwn, rowPart, stoOf, AV.isNil, shA, rowsT, cellsT, cellT]
        | some q =>
          obtain ⟨d, n, ks⟩ := q
          simp only [stV, stA, stB, cfAll]
          cases ks with
          | nil =>
            simp only [go_sem, s_ref11_Parse_b0, s_ref11_Parse_t1, d1, ↓reduceIte, Nat.reduceEqDiff, Nat.reduceAdd, Nat.reduceLeDiff, reduceCtorEq, Nat.reduceLT, Int.reduceLT, Int.reduceLE, Int.reduceEq, Int.reduceToNat, Nat.reduceMul]
            refine wends2 [] [999] (by first | exact Or.inl rfl | exact Or.inr rfl) ?_ (by simp [AV.ids, idsL]) (by simp [stoS]) (by simp [keysOf]) (by simp [stoOf, keysOf] <;> assumption) (by simp [keysOf]) (by simp [keysOf])
            simp only [go_sem, r_ref11_Parse, exists_eq_left', Option.some.injEq, ↓reduceIte, Nat.reduceEqDiff, Nat.reduceAdd, Nat.reduceLeDiff, reduceCtorEq, Nat.reduceLT, Int.reduceLT, Int.reduceLE, Int.reduceEq, Int.reduceToNat, Nat.reduceMul]
            simp [wkV, wkL, slTrees, AV.asOwn, rowPart, stoOf, AV.isNil, shA, rowsT, cellsT, cellT, secT, and_assoc]
          | cons k0 ks =>
            simp only [go_sem, s_ref11_Parse_b0, s_ref11_Parse_t1, d1, ↓reduceIte, Nat.reduceEqDiff, Nat.reduceAdd, Nat.reduceLeDiff, reduceCtorEq, Nat.reduceLT, Int.reduceLT, Int.reduceLE, Int.reduceEq, Int.reduceToNat, Nat.reduceMul]
            refine wends2 [] [999, 998] (by first | exact Or.inl rfl | exact Or.inr rfl) ?_ (by simp [AV.ids, idsL]) (by simp [stoS]) (by simp [keysOf]) (by simp [stoOf, keysOf] <;> assumption) (by simp [keysOf]) (by simp [keysOf])
            simp only [go_sem, r_ref11_Parse, exists_eq_left', Option.some.injEq, ↓reduceIte, Nat.reduceEqDiff, Nat.reduceAdd, Nat.reduceLeDiff, reduceCtorEq, Nat.reduceLT, Int.reduceLT, Int.reduceLE, Int.reduceEq, Int.reduceToNat, Nat.reduceMul]
            simp [wkV, wkL, slTrees, AV.asOwn, rowPart, stoOf, AV.isNil, shA, rowsT, cellsT, cellT, secT, and_assoc, List.take_of_length_le]

end Go.Proofs.YtbkchhjdjijhkaaDoor
