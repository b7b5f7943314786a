/- A configuration parsed, the program's way: the contract. No statement of the seat is proved here. -/
import Derived.Test.YtbkchhjdjijhkaaDoorCfGet
import Derived.Test.YtbkchhjdjijhkaaDoorCfLines2
import Derived.Test.YtbkchhjdjijhkaaDoorSxH
set_option linter.unusedSimpArgs false
set_option linter.unusedVariables false
namespace Go.Proofs.YtbkchhjdjijhkaaDoor
open Go Go.Sx

/-- The slice of sections, its row, and the row of the last one's keys. -/
def stV : CfSt → AV
  | none => .own 999 2 0 0 false
  | some (d, _, _) => .own 999 2 0 (d.length + 1) true

def stA : CfSt → Ob
  | none => .row 2 false []
  | some (d, n, ks) => .rowA 2 ((d.map secT).map (List.map AV.t) ++ [[Str (toB n), .own 998 2 0 ks.length (!ks.isEmpty)]])

def stB : CfSt → Ob
  | none => .row 2 false []
  | some (_, _, ks) => .row 2 (!ks.isEmpty) (ks.map pairT)

def stLen (st : CfSt) : Nat := match st with
  | none => 0
  | some (d, _, ks) => d.length + 1 + ks.length

@[simp] theorem wkLL_pre {β : Type} {so : Nat → Option Ob} {sn : List Nat} {π : Nat → Nat} (f : β → List T) (xs ys : List (List AV)) : ∀ l : List β, wkLL so sn π (l.map (List.map AV.t ∘ f) ++ xs) (l.map (List.map AV.t ∘ f) ++ ys) = wkLL so sn π xs ys
  | [] => rfl
  | b :: l => by
    simp only [List.map_cons, List.cons_append, wkLL, wkLL_pre f xs ys l, Function.comp, wkL_t, true_and]

@[simp] theorem wkLL_tc {β : Type} {so : Nat → Option Ob} {sn : List Nat} {π : Nat → Nat} (f : β → List T) : ∀ l : List β, wkLL so sn π (l.map (List.map AV.t ∘ f)) (l.map (List.map AV.t ∘ f)) = True
  | [] => by simp [wkLL]
  | b :: l => by simp only [List.map_cons, wkLL, wkLL_tc f l, Function.comp, wkL_t, true_and]

@[simp] theorem rowsT_pre {β : Type} {so : Nat → Option Ob} {sn : List Nat} (f : β → List T) (xs : List (List AV)) : ∀ l : List β, rowsT so sn (l.map (List.map AV.t ∘ f) ++ xs) = (rowsT so sn xs).map fun r => l.map f ++ r
  | [] => by simp
  | b :: l => by
    simp only [List.map_cons, List.cons_append, rowsT, rowsT_pre f xs l, Function.comp, cellsT_t]
    cases rowsT so sn xs <;> rfl

theorem idsL_app : ∀ xs ys : List AV, idsL (xs ++ ys) = idsL xs ++ idsL ys
  | [], ys => rfl
  | x :: xs, ys => by simp only [List.cons_append, idsL, idsL_app xs ys, List.append_assoc]

@[simp] theorem idsL_pre {β : Type} (f : β → List T) (xs : List AV) : ∀ l : List β, idsL ((l.map (List.map AV.t ∘ f)).flatten ++ xs) = idsL xs
  | [] => by simp
  | b :: l => by
    have ih := idsL_pre f xs l
    simp only [List.map_cons, List.flatten_cons, List.append_assoc, Function.comp]
    rw [idsL_app, idsL_map_t, List.nil_append]
    exact ih

theorem cfStep_eq (st : CfSt) (l : List UInt8) : cfStep st l = (if cfSecB l then
    (if cfHas (cfAll st) (cfSecN l) then .error 5 else if (cfAll st).length = 16 then .error 11 else .ok (some (cfAll st, cfSecN l, [])))
  else match st with
    | none => .error 7
    | some (d, n, ks) => if (cfPair l).2 = false then .error 7 else if (cfGet ks (cfPair l).1.1).isSome then .error 5 else if ks.length = 16 then .error 11 else .ok (some (d, n, ks ++ [(cfPair l).1]))) := rfl

theorem goS_none (ls : List (List UInt8)) (e : Int) (l : List UInt8) (st : CfSt) (h : cfStep st l = .error e) : cfGo (l :: ls) st = .error e := by
  simp only [cfGo, h]

theorem goS_some (ls : List (List UInt8)) (l : List UInt8) (st st' : CfSt) (h : cfStep st l = .ok st') : cfGo (l :: ls) st = cfGo ls st' := by
  simp only [cfGo, h]

theorem f_config_Parse (t : List UInt8) (ht : t.length ≤ 1000000000) : Meets Tryd.prog E0 n_config_Parse [Str (toB t)] [] (.tp [secsV (cfParse t).1, I (cfParse t).2]) [] := by
  refine m_config_Parse (by simp) (shut0 rfl) (shut0 rfl) (by simp) (by simp [keysOf]) ?_
  have hp : cfParse t = if 4096 < t.length then ([], 12) else match cfGo (cfLines t) none with
    | .error e => ([], e)
    | .ok st => (cfAll st, 0) := rfl
  by_cases hlong : 4096 < t.length
  · have d0 : decide ((4096 : Int) < (t.length : Int)) = true := decide_eq_true (by omega)
    rw [if_pos hlong] at hp
    rw [hp]
    unfold secsV
    simp only [go_sem, s_config_Parse, toB_size, d0, ↓reduceIte, Nat.reduceEqDiff, Nat.reduceAdd, Nat.reduceLeDiff, reduceCtorEq, Nat.reduceLT, Int.reduceLT, Int.reduceLE, Int.reduceEq, Int.reduceToNat, Nat.reduceMul]
    refine wends2 [] [] (by first | exact Or.inl rfl | exact Or.inr rfl) ?_ (by simp [AV.ids, idsL]) (by simp [stoS]) (by simp [keysOf]) (by simp [stoOf, keysOf] <;> assumption) (by simp [keysOf]) (by simp [keysOf])
    simp only [go_sem, r_config_Parse, exists_eq_left', Option.some.injEq, ↓reduceIte, Nat.reduceEqDiff, Nat.reduceAdd, Nat.reduceLeDiff, reduceCtorEq, Nat.reduceLT, Int.reduceLT, Int.reduceLE, Int.reduceEq, Int.reduceToNat, Nat.reduceMul]
    simp [wkV, wkL, slTrees, AV.asOwn, rowPart, stoOf, AV.isNil, shA, rowsT, cellsT, cellT]
  · have d0 : decide ((4096 : Int) < (t.length : Int)) = false := decide_eq_false (by omega)
    rw [if_neg hlong] at hp
    have hL := f_config_Lines t (by omega)
    have hll := lines_len t
    have hlv : linesV (cfLines t) = .t (.sl 1 ((cfLines t).map fun x => rowS (toB x))) := rfl
    rw [hlv] at hL
    generalize cfLines t = ls at *
    have hlen : (ls.map fun x => rowS (toB x)).length = ls.length := by simp
    simp only [go_sem, s_config_Parse, toB_size, d0, ↓reduceIte, Nat.reduceEqDiff, Nat.reduceAdd, Nat.reduceLeDiff, reduceCtorEq, Nat.reduceLT, Int.reduceLT, Int.reduceLE, Int.reduceEq, Int.reduceToNat, Nat.reduceMul]
    refine Cl_plain hL ?_
    simp only [go_sem, hlen, ↓reduceIte, Nat.reduceEqDiff, Nat.reduceAdd, Nat.reduceLeDiff, reduceCtorEq, Nat.reduceLT, Int.reduceLT, Int.reduceLE, Int.reduceEq, Int.reduceToNat, Nat.reduceMul]
    refine W_loop (fun i : Nat × CfSt => ls.length - i.1) (fun i => i.1 ≤ ls.length ∧ stLen i.2 ≤ i.1 ∧ cfGo (ls.drop i.1) i.2 = cfGo ls none)
      (fun i => [(4, stV i.2), (18, .t (.sl 1 (ls.map fun x => rowS (toB x)))), (19, I ls.length), (20, I i.1)]) (fun i => [(999, stA i.2), (998, stB i.2)]) (0, none) ⟨Nat.zero_le _, Nat.le_refl _, by simp⟩ ?_ ?_
    · simp only [stV, stA, stB]
      exact (subL [(999, 888), (998, 887)] [] (by simp [envS, go_sem, wkV, wkL, AV.ids, idsL, keysOf, ren, stoOf, slTrees, AV.asOwn, rowPart, AV.isNil, shA, rowsT, cellsT, cellT, wkLL, rowS, linesV, pairT, secT, secsV, List.take_of_length_le] <;> assumption) (by simp [stoS, go_sem, wkV, wkL, wkO, AV.ids, Ob.ids, idsL, keysOf, ren, AV.one, stoOf, slTrees, AV.asOwn, rowPart, AV.isNil, shA, rowsT, cellsT, cellT, wkLL, rowS, linesV, pairT, secT, secsV, List.take_of_length_le] <;> assumption) (by simp [keysOf, ren]) (by simp [stoOf, keysOf, ren]) (by simp [keysOf, ren]) (by simp [keysOf, ren]))
    · rintro ⟨i, st⟩ ⟨hi, hsl, hgo⟩
      simp only at hi hsl hgo
      by_cases hil : i < ls.length
      · have d1 : decide (i < ls.length) = true := decide_eq_true hil
        obtain ⟨l, hl⟩ := get_of_lt hil
        have hg : (ls.map fun x => rowS (toB x))[i]? = some (rowS (toB l)) := by rw [List.getElem?_map, hl]; rfl
        have hl0 := hll.2 l (List.mem_of_getElem? hl)
        have ei : IntKind.i64.wrap ((i : Int) + 1) = ((i + 1 : Nat) : Int) := by rw [wrap_i64_of (by omega) (by omega)]; omega
        have hsec := f_config_section l (by omega)
        have hpair := f_config_pair l (by omega)
        rw [drop_get hl] at hgo
        have herr : ∀ e, cfStep st l = .error e → cfParse t = ([], e) := fun e h => by rw [hp, ← hgo, goS_none _ e _ _ h]
        have hok : ∀ st', cfStep st l = .ok st' → cfGo (ls.drop (i + 1)) st' = cfGo ls none := fun st' h => by rw [← hgo, goS_some _ _ _ _ h]
        have hstep := cfStep_eq st l
        simp only [go_sem, d1, hg, rowS_get, ↓reduceIte, Nat.reduceEqDiff, Nat.reduceAdd, Nat.reduceLeDiff, reduceCtorEq, Nat.reduceLT, Int.reduceLT, Int.reduceLE, Int.reduceEq, Int.reduceToNat, Nat.reduceMul]
        refine Cl_plain hsec ?_
        cases hsb : cfSecB l
        · rw [hsb, if_neg (by decide)] at hstep
          simp only [go_sem, ↓reduceIte, Nat.reduceEqDiff, Nat.reduceAdd, Nat.reduceLeDiff, reduceCtorEq, Nat.reduceLT, Int.reduceLT, Int.reduceLE, Int.reduceEq, Int.reduceToNat, Nat.reduceMul]
          refine Cl_plain hpair ?_
          generalize cfPair l = p at *
          obtain ⟨⟨pk, pv⟩, pb⟩ := p
          simp only at hstep hpair ⊢
          cases st with
          | none =>
            have he := herr 7 hstep
            rw [he]
            unfold secsV
            simp only [stV, stA, stB]
            cases pb
            · simp only [go_sem, ↓reduceIte, Nat.reduceEqDiff, Nat.reduceAdd, Nat.reduceLeDiff, reduceCtorEq, Nat.reduceLT, Int.reduceLT, Int.reduceLE, Int.reduceEq, Int.reduceToNat, Nat.reduceMul]
              refine wends2 [] [] (by first | exact Or.inl rfl | exact Or.inr rfl) ?_ (by simp [AV.ids, idsL]) (by simp [stoS]) (by simp [keysOf]) (by simp [stoOf, keysOf] <;> assumption) (by simp [keysOf]) (by simp [keysOf])
              simp only [go_sem, r_config_Parse, exists_eq_left', Option.some.injEq, ↓reduceIte, Nat.reduceEqDiff, Nat.reduceAdd, Nat.reduceLeDiff, reduceCtorEq, Nat.reduceLT, Int.reduceLT, Int.reduceLE, Int.reduceEq, Int.reduceToNat, Nat.reduceMul]
              simp [wkV, wkL, slTrees, AV.asOwn, rowPart, stoOf, AV.isNil, shA, rowsT, cellsT, cellT]
            · have d2 : decide (((0 : Nat) : Int) = 0) = true := rfl
              simp only [go_sem, d2, ↓reduceIte, Nat.reduceEqDiff, Nat.reduceAdd, Nat.reduceLeDiff, reduceCtorEq, Nat.reduceLT, Int.reduceLT, Int.reduceLE, Int.reduceEq, Int.reduceToNat, Nat.reduceMul]
              refine wends2 [] [] (by first | exact Or.inl rfl | exact Or.inr rfl) ?_ (by simp [AV.ids, idsL]) (by simp [stoS]) (by simp [keysOf]) (by simp [stoOf, keysOf] <;> assumption) (by simp [keysOf]) (by simp [keysOf])
              simp only [go_sem, r_config_Parse, exists_eq_left', Option.some.injEq, ↓reduceIte, Nat.reduceEqDiff, Nat.reduceAdd, Nat.reduceLeDiff, reduceCtorEq, Nat.reduceLT, Int.reduceLT, Int.reduceLE, Int.reduceEq, Int.reduceToNat, Nat.reduceMul]
              simp [wkV, wkL, slTrees, AV.asOwn, rowPart, stoOf, AV.isNil, shA, rowsT, cellsT, cellT]
          | some q =>
            obtain ⟨d, n, ks⟩ := q
            simp only [stLen] at hsl hstep
            cases pb
            · have he := herr 7 hstep
              rw [he]
              unfold secsV
              simp only [stV, stA, stB]
              simp only [go_sem, ↓reduceIte, Nat.reduceEqDiff, Nat.reduceAdd, Nat.reduceLeDiff, reduceCtorEq, Nat.reduceLT, Int.reduceLT, Int.reduceLE, Int.reduceEq, Int.reduceToNat, Nat.reduceMul]
              refine wends2 [] [] (by first | exact Or.inl rfl | exact Or.inr rfl) ?_ (by simp [AV.ids, idsL]) (by simp [stoS]) (by simp [keysOf]) (by simp [stoOf, keysOf] <;> assumption) (by simp [keysOf]) (by simp [keysOf])
              simp only [go_sem, r_config_Parse, exists_eq_left', Option.some.injEq, ↓reduceIte, Nat.reduceEqDiff, Nat.reduceAdd, Nat.reduceLeDiff, reduceCtorEq, Nat.reduceLT, Int.reduceLT, Int.reduceLE, Int.reduceEq, Int.reduceToNat, Nat.reduceMul]
              simp [wkV, wkL, slTrees, AV.asOwn, rowPart, stoOf, AV.isNil, shA, rowsT, cellsT, cellT]
            · simp only [stV, stA, stB]
              rw [if_neg (by decide)] at hstep
              have hG := f_config_Get n ks pk (by omega)
              have d2 : decide (((d.length + 1 : Nat) : Int) = 0) = false := decide_eq_false (by omega)
              have w1 : IntKind.i64.wrap (((d.length + 1 : Nat) : Int) - 1) = (d.length : Int) := by rw [wrap_i64_of (by omega) (by omega)]; omega
              have c1 : ((d.length : Int) < ((d.length + 1 : Nat) : Int)) = True := eq_true (by omega)
              have hE : ∀ x : List AV, ((d.map secT).map (List.map AV.t) ++ [x])[d.length]? = some x := by intro x; simp
              have hS : ∀ x y : List AV, ((d.map secT).map (List.map AV.t) ++ [x]).set d.length y = (d.map secT).map (List.map AV.t) ++ [y] := by intro x y; simp
              cases ks with
              | nil =>
                have hst := hok (some (d, n, [(pk, pv)])) hstep
                simp only [go_sem, d2, w1, c1, hE, ↓reduceIte, Nat.reduceEqDiff, Nat.reduceAdd, Nat.reduceLeDiff, reduceCtorEq, Nat.reduceLT, Int.reduceLT, Int.reduceLE, Int.reduceEq, Int.reduceToNat, Nat.reduceMul]
                refine Cl_keep [] hG ?_ (by simp) rfl ?_
                · exact .ag (.one (Wk.refl _) (.one (Wk.gone (by simp [slTrees, AV.asOwn, rowPart, stoOf]) (by simp [stoOf]; rfl)) .nil)) (.one (Wk.refl _) .nil)
                have g0 : (cfGet [] pk).isSome = false := rfl
                have d3 : decide (((0 : Nat) : Int) = 16) = false := rfl
                have b0 : ((32 : Nat) ≤ 2 ^ 47) = True := eq_true (by decide)
                ((try (with_reducible refine R_fin (by repeat' (first | exact okp0 | refine okp rfl rfl rfl ?_)) ?_)); (try simp only [go_sem, g0, ↓reduceIte, Nat.reduceEqDiff, Nat.reduceAdd, Nat.reduceLeDiff, reduceCtorEq, Nat.reduceLT, Int.reduceLT, Int.reduceLE, Int.reduceEq, Int.reduceToNat, Nat.reduceMul]))
                simp only [go_sem, hE, d3, b0, hS, ↓reduceIte, Nat.reduceEqDiff, Nat.reduceAdd, Nat.reduceLeDiff, reduceCtorEq, Nat.reduceLT, Int.reduceLT, Int.reduceLE, Int.reduceEq, Int.reduceToNat, Nat.reduceMul]
                ((try (with_reducible refine R_fin (by repeat' (first | exact okp0 | refine okp rfl rfl rfl ?_)) ?_)); (try simp only [go_sem, hE, d3, b0, hS, ei, ↓reduceIte, Nat.reduceEqDiff, Nat.reduceAdd, Nat.reduceLeDiff, reduceCtorEq, Nat.reduceLT, Int.reduceLT, Int.reduceLE, Int.reduceEq, Int.reduceToNat, Nat.reduceMul]))
                refine rd_of (i + 1, some (d, n, [(pk, pv)])) (by first | omega | (simp only; omega)) ⟨hil, by simp only [stLen]; simp; simp at hsl; omega, hst⟩ ?_
                simp only [stV, stA, stB]
                exact (subL [(999, 999), (998, 196)] [] (by simp [envS, go_sem, wkV, wkL, AV.ids, idsL, keysOf, ren, stoOf, slTrees, AV.asOwn, rowPart, AV.isNil, shA, rowsT, cellsT, cellT, wkLL, rowS, linesV, pairT, secT, secsV, List.take_of_length_le] <;> assumption) (by simp [stoS, go_sem, wkV, wkL, wkO, AV.ids, Ob.ids, idsL, keysOf, ren, AV.one, stoOf, slTrees, AV.asOwn, rowPart, AV.isNil, shA, rowsT, cellsT, cellT, wkLL, rowS, linesV, pairT, secT, secsV, List.take_of_length_le] <;> assumption) (by simp [keysOf, ren]) (by simp [stoOf, keysOf, ren]) (by simp [keysOf, ren]) (by simp [keysOf, ren]))
              | cons k0 ks =>
                have hcl : (k0 :: ks).length = ks.length + 1 := rfl
                have g0 : (cfGet (k0 :: ks) pk).isSome = (cfGet (k0 :: ks) pk).isSome := rfl
                generalize hgv : cfGet (k0 :: ks) pk = gv at *
                simp only [go_sem, d2, w1, c1, hE, ↓reduceIte, Nat.reduceEqDiff, Nat.reduceAdd, Nat.reduceLeDiff, reduceCtorEq, Nat.reduceLT, Int.reduceLT, Int.reduceLE, Int.reduceEq, Int.reduceToNat, Nat.reduceMul]
                refine Cl_keep [998] hG ?_ (by simp [stoOf]) rfl ?_
                · exact .ag (.one (Wk.refl _) (.one (Wk.row (by simp [slTrees, AV.asOwn, rowPart, stoOf, List.take_of_length_le]) (by simp)) .nil)) (.one (Wk.refl _) .nil)
                cases gv with
                | some v =>
                  have he := herr 5 (by rw [hstep]; rfl)
                  rw [he]
                  unfold secsV
                  ((try (with_reducible refine R_fin (by repeat' (first | exact okp0 | refine okp rfl rfl rfl ?_)) ?_)); (try simp only [go_sem, Option.isSome_some, ↓reduceIte, Nat.reduceEqDiff, Nat.reduceAdd, Nat.reduceLeDiff, reduceCtorEq, Nat.reduceLT, Int.reduceLT, Int.reduceLE, Int.reduceEq, Int.reduceToNat, Nat.reduceMul]))
                  refine wends2 [] [] (by first | exact Or.inl rfl | exact Or.inr rfl) ?_ (by simp [AV.ids, idsL]) (by simp [stoS]) (by simp [keysOf]) (by simp [stoOf, keysOf] <;> assumption) (by simp [keysOf]) (by simp [keysOf])
                  simp only [go_sem, r_config_Parse, exists_eq_left', Option.some.injEq, ↓reduceIte, Nat.reduceEqDiff, Nat.reduceAdd, Nat.reduceLeDiff, reduceCtorEq, Nat.reduceLT, Int.reduceLT, Int.reduceLE, Int.reduceEq, Int.reduceToNat, Nat.reduceMul]
                  simp [wkV, wkL, slTrees, AV.asOwn, rowPart, stoOf, AV.isNil, shA, rowsT, cellsT, cellT]
                | none =>
                  rw [if_neg (by decide)] at hstep
                  by_cases h16 : (k0 :: ks).length = 16
                  · have he := herr 11 (by rw [hstep, if_pos h16])
                    rw [he]
                    unfold secsV
                    have d3 : decide (((ks.length + 1 : Nat) : Int) = 16) = true := decide_eq_true (by rw [hcl] at h16; omega)
                    ((try (with_reducible refine R_fin (by repeat' (first | exact okp0 | refine okp rfl rfl rfl ?_)) ?_)); (try simp only [go_sem, Option.isSome_none, ↓reduceIte, Nat.reduceEqDiff, Nat.reduceAdd, Nat.reduceLeDiff, reduceCtorEq, Nat.reduceLT, Int.reduceLT, Int.reduceLE, Int.reduceEq, Int.reduceToNat, Nat.reduceMul]))
                    simp only [go_sem, hE, d3, ↓reduceIte, Nat.reduceEqDiff, Nat.reduceAdd, Nat.reduceLeDiff, reduceCtorEq, Nat.reduceLT, Int.reduceLT, Int.reduceLE, Int.reduceEq, Int.reduceToNat, Nat.reduceMul]
                    refine wends2 [] [] (by first | exact Or.inl rfl | exact Or.inr rfl) ?_ (by simp [AV.ids, idsL]) (by simp [stoS]) (by simp [keysOf]) (by simp [stoOf, keysOf] <;> assumption) (by simp [keysOf]) (by simp [keysOf])
                    simp only [go_sem, r_config_Parse, exists_eq_left', Option.some.injEq, ↓reduceIte, Nat.reduceEqDiff, Nat.reduceAdd, Nat.reduceLeDiff, reduceCtorEq, Nat.reduceLT, Int.reduceLT, Int.reduceLE, Int.reduceEq, Int.reduceToNat, Nat.reduceMul]
                    simp [wkV, wkL, slTrees, AV.asOwn, rowPart, stoOf, AV.isNil, shA, rowsT, cellsT, cellT]
                  · rw [if_neg h16] at hstep
                    have hst := hok _ hstep
                    have d3 : decide (((ks.length + 1 : Nat) : Int) = 16) = false := decide_eq_false (by rw [hcl] at h16; omega)
                    rw [hcl] at hsl
                    have b4 : ((ks.length + 1 + 1) * 32 ≤ 2 ^ 47) = True := eq_true (by omega)
                    have b5 : (ks.length + 1 + 1 < 2 ^ 47) = True := eq_true (by omega)
                    have em : (k0 :: ks).map pairT ++ [[.v (.string (toB pk)), .v (.string (toB pv))]] = ((k0 :: ks) ++ [(pk, pv)]).map pairT := by simp [pairT]
                    have hlm : ((k0 :: ks).map pairT).length = ks.length + 1 := by simp
                    ((try (with_reducible refine R_fin (by repeat' (first | exact okp0 | refine okp rfl rfl rfl ?_)) ?_)); (try simp only [go_sem, Option.isSome_none, ↓reduceIte, Nat.reduceEqDiff, Nat.reduceAdd, Nat.reduceLeDiff, reduceCtorEq, Nat.reduceLT, Int.reduceLT, Int.reduceLE, Int.reduceEq, Int.reduceToNat, Nat.reduceMul]))
                    simp only [go_sem, hE, d3, b4, b5, hS, ↓reduceIte, Nat.reduceEqDiff, Nat.reduceAdd, Nat.reduceLeDiff, reduceCtorEq, Nat.reduceLT, Int.reduceLT, Int.reduceLE, Int.reduceEq, Int.reduceToNat, Nat.reduceMul]
                    ((try (with_reducible refine R_fin (by repeat' (first | exact okp0 | refine okp rfl rfl rfl ?_)) ?_)); (try simp only [go_sem, hE, d3, b4, b5, hS, ei, ↓reduceIte, Nat.reduceEqDiff, Nat.reduceAdd, Nat.reduceLeDiff, reduceCtorEq, Nat.reduceLT, Int.reduceLT, Int.reduceLE, Int.reduceEq, Int.reduceToNat, Nat.reduceMul]))
                    refine rd_of (i + 1, some (d, n, k0 :: ks ++ [(pk, pv)])) (by first | omega | (simp only; omega)) ⟨hil, by simp only [stLen]; simp; omega, hst⟩ ?_
                    simp only [stV, stA, stB, List.length_append, List.length_cons, List.length_nil, Nat.zero_add, show (k0 :: ks ++ [(pk, pv)]).isEmpty = false from by simp, Bool.not_false]
                    exact (subL [(999, 999), (998, 196)] [] (by simp [envS, go_sem, wkV, wkL, AV.ids, idsL, keysOf, ren, stoOf, slTrees, AV.asOwn, rowPart, AV.isNil, shA, rowsT, cellsT, cellT, wkLL, rowS, linesV, pairT, secT, secsV, List.take_of_length_le] <;> assumption) (by simp [stoS, go_sem, wkV, wkL, wkO, AV.ids, Ob.ids, idsL, keysOf, ren, AV.one, stoOf, slTrees, AV.asOwn, rowPart, AV.isNil, shA, rowsT, cellsT, cellT, wkLL, rowS, linesV, pairT, secT, secsV, List.take_of_length_le] <;> assumption) (by simp [keysOf, ren]) (by simp [stoOf, keysOf, ren]) (by simp [keysOf, ren]) (by simp [keysOf, ren]))
        · rw [hsb, if_pos rfl] at hstep
          have hal : (cfAll st).length ≤ i := by
            cases st with
            | none => simp [cfAll]
            | some q => obtain ⟨d, n, ks⟩ := q; simp only [stLen] at hsl; simp [cfAll]; omega
          have hH := f_config_has (cfAll st) (cfSecN l) (by omega)
          cases st with
          | none =>
            have hst := hok _ hstep
            have hH : Meets Tryd.prog E0 n_config_has [.t (.sl 2 []), Str (toB (cfSecN l))] [] (Bo false) [] := hH
            have d3 : decide (((0 : Nat) : Int) = 16) = false := rfl
            simp only [stV, stA, stB]
            simp only [go_sem, ↓reduceIte, Nat.reduceEqDiff, Nat.reduceAdd, Nat.reduceLeDiff, reduceCtorEq, Nat.reduceLT, Int.reduceLT, Int.reduceLE, Int.reduceEq, Int.reduceToNat, Nat.reduceMul]
            refine Cl_keep [] hH ?_ (by simp) rfl ?_
            · exact .one (Wk.gone (by simp [slTrees, AV.asOwn, rowPart, stoOf]) (by simp [stoOf]; rfl)) (.one (Wk.refl _) .nil)
            have b0 : ((40 : Nat) ≤ 2 ^ 47) = True := eq_true (by decide)
            simp only [go_sem, d3, b0, ei, ↓reduceIte, Nat.reduceEqDiff, Nat.reduceAdd, Nat.reduceLeDiff, reduceCtorEq, Nat.reduceLT, Int.reduceLT, Int.reduceLE, Int.reduceEq, Int.reduceToNat, Nat.reduceMul]
            refine rd_of (i + 1, some ([], cfSecN l, [])) (by first | omega | (simp only; omega)) ⟨hil, by simp only [stLen]; simp, hst⟩ ?_
            simp only [stV, stA, stB, List.length_nil, List.map_nil, List.nil_append, List.isEmpty_nil, Bool.not_true, Nat.zero_add]
            exact (subL [(999, 140), (998, 886)] [] (by simp [envS, go_sem, wkV, wkL, AV.ids, idsL, keysOf, ren, stoOf, slTrees, AV.asOwn, rowPart, AV.isNil, shA, rowsT, cellsT, cellT, wkLL, rowS, linesV, pairT, secT, secsV, List.take_of_length_le] <;> assumption) (by simp [stoS, go_sem, wkV, wkL, wkO, AV.ids, Ob.ids, idsL, keysOf, ren, AV.one, stoOf, slTrees, AV.asOwn, rowPart, AV.isNil, shA, rowsT, cellsT, cellT, wkLL, rowS, linesV, pairT, secT, secsV, List.take_of_length_le] <;> assumption) (by simp [keysOf, ren]) (by simp [stoOf, keysOf, ren]) (by simp [keysOf, ren]) (by simp [keysOf, ren]))
          | some q =>
            obtain ⟨d, n, ks⟩ := q
            have hH : Meets Tryd.prog E0 n_config_has [.t (.sl 2 ((d ++ [(n, ks)]).map secT)), Str (toB (cfSecN l))] [] (Bo (cfHas (d ++ [(n, ks)]) (cfSecN l))) [] := hH
            have hstep : cfStep (some (d, n, ks)) l = if cfHas (d ++ [(n, ks)]) (cfSecN l) then .error 5 else if (d ++ [(n, ks)]).length = 16 then .error 11 else .ok (some (d ++ [(n, ks)], cfSecN l, [])) := hstep
            have hdl : (d ++ [(n, ks)]).length = d.length + 1 := by simp
            rw [hdl] at hstep
            simp only [stLen] at hsl
            simp only [stV, stA, stB]
            have b4 : (d.length + 1 + 1) * 40 ≤ 2 ^ 47 := by omega
            have b5 : d.length + 1 + 1 < 2 ^ 47 := by omega
            have hlm : ((d.map secT).map (List.map AV.t) ++ [[Str (toB n), .own 998 2 0 ks.length (!ks.isEmpty)]]).length = d.length + 1 := by simp
            cases ks with
            | nil =>
              simp only [go_sem, ↓reduceIte, Nat.reduceEqDiff, Nat.reduceAdd, Nat.reduceLeDiff, reduceCtorEq, Nat.reduceLT, Int.reduceLT, Int.reduceLE, Int.reduceEq, Int.reduceToNat, Nat.reduceMul]
              refine Cl_keep [999] hH ?_ (by simp [stoOf]) rfl ?_
              · exact .one (Wk.rowA (by simp) (by simp [shA, rowsT, cellsT, cellT, stoOf, secT])) (.one (Wk.refl _) .nil)
              cases hh : cfHas (d ++ [(n, [])]) (cfSecN l)
              · rw [hh, if_neg (by decide)] at hstep
                by_cases h16 : d.length + 1 = 16
                · have he := herr 11 (by rw [hstep, if_pos h16])
                  rw [he]
                  unfold secsV
                  have d3 : decide (((d.length + 1 : Nat) : Int) = 16) = true := decide_eq_true (by omega)
                  simp only [go_sem, d3, ↓reduceIte, Nat.reduceEqDiff, Nat.reduceAdd, Nat.reduceLeDiff, reduceCtorEq, Nat.reduceLT, Int.reduceLT, Int.reduceLE, Int.reduceEq, Int.reduceToNat, Nat.reduceMul]
                  refine wends2 [] [] (by first | exact Or.inl rfl | exact Or.inr rfl) ?_ (by simp [AV.ids, idsL]) (by simp [stoS]) (by simp [keysOf]) (by simp [stoOf, keysOf] <;> assumption) (by simp [keysOf]) (by simp [keysOf])
                  simp only [go_sem, r_config_Parse, exists_eq_left', Option.some.injEq, ↓reduceIte, Nat.reduceEqDiff, Nat.reduceAdd, Nat.reduceLeDiff, reduceCtorEq, Nat.reduceLT, Int.reduceLT, Int.reduceLE, Int.reduceEq, Int.reduceToNat, Nat.reduceMul]
                  simp [wkV, wkL, slTrees, AV.asOwn, rowPart, stoOf, AV.isNil, shA, rowsT, cellsT, cellT]
                · have hst := hok _ (by rw [hstep, if_neg h16])
                  have d3 : decide (((d.length + 1 : Nat) : Int) = 16) = false := decide_eq_false (by omega)
                  simp only [go_sem, d3, b4, b5, ei, ↓reduceIte, Nat.reduceEqDiff, Nat.reduceAdd, Nat.reduceLeDiff, reduceCtorEq, Nat.reduceLT, Int.reduceLT, Int.reduceLE, Int.reduceEq, Int.reduceToNat, Nat.reduceMul]
                  refine rd_of (i + 1, some (d ++ [(n, [])], cfSecN l, [])) (by first | omega | (simp only; omega)) ⟨hil, by simp only [stLen]; simp; simp at hsl; omega, hst⟩ ?_
                  simp only [stV, stA, stB, List.length_append, List.length_cons, List.length_nil, Nat.zero_add, List.isEmpty_nil, Bool.not_true, List.map_nil]
                  exact (subL [(999, 140), (998, 886)] [] (by simp [envS, go_sem, wkV, wkL, AV.ids, idsL, keysOf, ren, stoOf, slTrees, AV.asOwn, rowPart, AV.isNil, shA, rowsT, cellsT, cellT, wkLL, rowS, linesV, pairT, secT, secsV, List.take_of_length_le] <;> assumption) (by simp [stoS, go_sem, wkV, wkL, wkO, AV.ids, Ob.ids, idsL, keysOf, ren, AV.one, stoOf, slTrees, AV.asOwn, rowPart, AV.isNil, shA, rowsT, cellsT, cellT, wkLL, rowS, linesV, pairT, secT, secsV, List.take_of_length_le] <;> assumption) (by simp [keysOf, ren]) (by simp [stoOf, keysOf, ren]) (by simp [keysOf, ren]) (by simp [keysOf, ren]))
              · have he := herr 5 (by rw [hstep, hh]; rfl)
                rw [he]
                unfold secsV
                simp only [go_sem, ↓reduceIte, Nat.reduceEqDiff, Nat.reduceAdd, Nat.reduceLeDiff, reduceCtorEq, Nat.reduceLT, Int.reduceLT, Int.reduceLE, Int.reduceEq, Int.reduceToNat, Nat.reduceMul]
                refine wends2 [] [] (by first | exact Or.inl rfl | exact Or.inr rfl) ?_ (by simp [AV.ids, idsL]) (by simp [stoS]) (by simp [keysOf]) (by simp [stoOf, keysOf] <;> assumption) (by simp [keysOf]) (by simp [keysOf])
                simp only [go_sem, r_config_Parse, exists_eq_left', Option.some.injEq, ↓reduceIte, Nat.reduceEqDiff, Nat.reduceAdd, Nat.reduceLeDiff, reduceCtorEq, Nat.reduceLT, Int.reduceLT, Int.reduceLE, Int.reduceEq, Int.reduceToNat, Nat.reduceMul]
                simp [wkV, wkL, slTrees, AV.asOwn, rowPart, stoOf, AV.isNil, shA, rowsT, cellsT, cellT]
            | cons k0 ks =>
              simp only [go_sem, ↓reduceIte, Nat.reduceEqDiff, Nat.reduceAdd, Nat.reduceLeDiff, reduceCtorEq, Nat.reduceLT, Int.reduceLT, Int.reduceLE, Int.reduceEq, Int.reduceToNat, Nat.reduceMul]
              refine Cl_keep [999, 998] hH ?_ (by simp [stoOf]) rfl ?_
              · exact .one (Wk.rowA (by simp) (by simp [shA, rowsT, cellsT, cellT, stoOf, secT, rowPart, List.take_of_length_le])) (.one (Wk.refl _) .nil)
              cases hh : cfHas (d ++ [(n, k0 :: ks)]) (cfSecN l)
              · rw [hh, if_neg (by decide)] at hstep
                by_cases h16 : d.length + 1 = 16
                · have he := herr 11 (by rw [hstep, if_pos h16])
                  rw [he]
                  unfold secsV
                  have d3 : decide (((d.length + 1 : Nat) : Int) = 16) = true := decide_eq_true (by omega)
                  simp only [go_sem, d3, ↓reduceIte, Nat.reduceEqDiff, Nat.reduceAdd, Nat.reduceLeDiff, reduceCtorEq, Nat.reduceLT, Int.reduceLT, Int.reduceLE, Int.reduceEq, Int.reduceToNat, Nat.reduceMul]
                  refine wends2 [] [] (by first | exact Or.inl rfl | exact Or.inr rfl) ?_ (by simp [AV.ids, idsL]) (by simp [stoS]) (by simp [keysOf]) (by simp [stoOf, keysOf] <;> assumption) (by simp [keysOf]) (by simp [keysOf])
                  simp only [go_sem, r_config_Parse, exists_eq_left', Option.some.injEq, ↓reduceIte, Nat.reduceEqDiff, Nat.reduceAdd, Nat.reduceLeDiff, reduceCtorEq, Nat.reduceLT, Int.reduceLT, Int.reduceLE, Int.reduceEq, Int.reduceToNat, Nat.reduceMul]
                  simp [wkV, wkL, slTrees, AV.asOwn, rowPart, stoOf, AV.isNil, shA, rowsT, cellsT, cellT]
                · have hst := hok _ (by rw [hstep, if_neg h16])
                  have d3 : decide (((d.length + 1 : Nat) : Int) = 16) = false := decide_eq_false (by omega)
                  simp only [go_sem, d3, b4, b5, ei, ↓reduceIte, Nat.reduceEqDiff, Nat.reduceAdd, Nat.reduceLeDiff, reduceCtorEq, Nat.reduceLT, Int.reduceLT, Int.reduceLE, Int.reduceEq, Int.reduceToNat, Nat.reduceMul]
                  refine rd_of (i + 1, some (d ++ [(n, k0 :: ks)], cfSecN l, [])) (by first | omega | (simp only; omega)) ⟨hil, by simp only [stLen]; simp; simp at hsl; omega, hst⟩ ?_
                  simp only [stV, stA, stB, List.length_append, List.length_cons, List.length_nil, Nat.zero_add, List.isEmpty_nil, Bool.not_true, List.map_nil]
                  exact (subL [(999, 140), (998, 886)] [998] (by simp [envS, go_sem, wkV, wkL, AV.ids, idsL, keysOf, ren, stoOf, slTrees, AV.asOwn, rowPart, AV.isNil, shA, rowsT, cellsT, cellT, wkLL, rowS, linesV, pairT, secT, secsV, List.take_of_length_le] <;> assumption) (by simp [stoS, go_sem, wkV, wkL, wkO, AV.ids, Ob.ids, idsL, keysOf, ren, AV.one, stoOf, slTrees, AV.asOwn, rowPart, AV.isNil, shA, rowsT, cellsT, cellT, wkLL, rowS, linesV, pairT, secT, secsV, List.take_of_length_le] <;> assumption) (by simp [keysOf, ren]) (by simp [stoOf, keysOf, ren]) (by simp [keysOf, ren]) (by simp [keysOf, ren]))
              · have he := herr 5 (by rw [hstep, hh]; rfl)
                rw [he]
                unfold secsV
                simp only [go_sem, ↓reduceIte, Nat.reduceEqDiff, Nat.reduceAdd, Nat.reduceLeDiff, reduceCtorEq, Nat.reduceLT, Int.reduceLT, Int.reduceLE, Int.reduceEq, Int.reduceToNat, Nat.reduceMul]
                refine wends2 [] [] (by first | exact Or.inl rfl | exact Or.inr rfl) ?_ (by simp [AV.ids, idsL]) (by simp [stoS]) (by simp [keysOf]) (by simp [stoOf, keysOf] <;> assumption) (by simp [keysOf]) (by simp [keysOf])
                simp only [go_sem, r_config_Parse, exists_eq_left', Option.some.injEq, ↓reduceIte, Nat.reduceEqDiff, Nat.reduceAdd, Nat.reduceLeDiff, reduceCtorEq, Nat.reduceLT, Int.reduceLT, Int.reduceLE, Int.reduceEq, Int.reduceToNat, Nat.reduceMul]
                simp [wkV, wkL, slTrees, AV.asOwn, rowPart, stoOf, AV.isNil, shA, rowsT, cellsT, cellT]
      · obtain rfl : i = ls.length := by omega
        have d1 : decide (ls.length < ls.length) = false := decide_eq_false (by omega)
        rw [List.drop_length] at hgo
        have hgo' : cfGo ls none = .ok st := hgo.symm
        rw [hgo'] at hp
        simp only at hp
        rw [hp]
        unfold secsV
        cases st with
        | none =>
          simp only [stV, stA, stB, cfAll, List.map_nil]
          simp only [go_sem, d1, ↓reduceIte, Nat.reduceEqDiff, Nat.reduceAdd, Nat.reduceLeDiff, reduceCtorEq, Nat.reduceLT, Int.reduceLT, Int.reduceLE, Int.reduceEq, Int.reduceToNat, Nat.reduceMul]
          refine wends2 [] [] (by first | exact Or.inl rfl | exact Or.inr rfl) ?_ (by simp [AV.ids, idsL]) (by simp [stoS]) (by simp [keysOf]) (by simp [stoOf, keysOf] <;> assumption) (by simp [keysOf]) (by simp [keysOf])
          simp only [go_sem, r_config_Parse, exists_eq_left', Option.some.injEq, ↓reduceIte, Nat.reduceEqDiff, Nat.reduceAdd, Nat.reduceLeDiff, reduceCtorEq, Nat.reduceLT, Int.reduceLT, Int.reduceLE, Int.reduceEq, Int.reduceToNat, Nat.reduceMul]
          simp [wkV, wkL, slTrees, AV.asOwn, rowPart, stoOf, AV.isNil, shA, rowsT, cellsT, cellT]
        | some q =>
          obtain ⟨d, n, ks⟩ := q
          simp only [stV, stA, stB, cfAll]
          cases ks with
          | nil =>
            simp only [go_sem, d1, ↓reduceIte, Nat.reduceEqDiff, Nat.reduceAdd, Nat.reduceLeDiff, reduceCtorEq, Nat.reduceLT, Int.reduceLT, Int.reduceLE, Int.reduceEq, Int.reduceToNat, Nat.reduceMul]
            refine wends2 [] [999] (by first | exact Or.inl rfl | exact Or.inr rfl) ?_ (by simp [AV.ids, idsL]) (by simp [stoS]) (by simp [keysOf]) (by simp [stoOf, keysOf] <;> assumption) (by simp [keysOf]) (by simp [keysOf])
            simp only [go_sem, r_config_Parse, exists_eq_left', Option.some.injEq, ↓reduceIte, Nat.reduceEqDiff, Nat.reduceAdd, Nat.reduceLeDiff, reduceCtorEq, Nat.reduceLT, Int.reduceLT, Int.reduceLE, Int.reduceEq, Int.reduceToNat, Nat.reduceMul]
            simp [wkV, wkL, slTrees, AV.asOwn, rowPart, stoOf, AV.isNil, shA, rowsT, cellsT, cellT, secT, and_assoc]
          | cons k0 ks =>
            simp only [go_sem, d1, ↓reduceIte, Nat.reduceEqDiff, Nat.reduceAdd, Nat.reduceLeDiff, reduceCtorEq, Nat.reduceLT, Int.reduceLT, Int.reduceLE, Int.reduceEq, Int.reduceToNat, Nat.reduceMul]
            refine wends2 [] [999, 998] (by first | exact Or.inl rfl | exact Or.inr rfl) ?_ (by simp [AV.ids, idsL]) (by simp [stoS]) (by simp [keysOf]) (by simp [stoOf, keysOf] <;> assumption) (by simp [keysOf]) (by simp [keysOf])
            simp only [go_sem, r_config_Parse, exists_eq_left', Option.some.injEq, ↓reduceIte, Nat.reduceEqDiff, Nat.reduceAdd, Nat.reduceLeDiff, reduceCtorEq, Nat.reduceLT, Int.reduceLT, Int.reduceLE, Int.reduceEq, Int.reduceToNat, Nat.reduceMul]
            simp [wkV, wkL, slTrees, AV.asOwn, rowPart, stoOf, AV.isNil, shA, rowsT, cellsT, cellT, secT, and_assoc, List.take_of_length_le]

end Go.Proofs.YtbkchhjdjijhkaaDoor
