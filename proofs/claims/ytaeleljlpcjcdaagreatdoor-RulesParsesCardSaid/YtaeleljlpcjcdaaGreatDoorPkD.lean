/- Texts of mine, many in one. No statement of the seat is proved here. -/
import Derived.Test.YtaeleljlpcjcdaaGreatDoorPkC
import Derived.Test.YtaeleljlpcjcdaaGreatDoorSxH
set_option linter.unusedSimpArgs false
set_option linter.unusedVariables false
namespace Go.Proofs.YtaeleljlpcjcdaaGreatDoor
open Go Go.Sx

theorem sR_RuRefF {io : List Nat} {env : List (Nat × AV)} {sto : List (Nat × Ob)} {env' : List (Nat × AV)} {sto' : List (Nat × Ob)} (rn : List (Nat × Nat)) (sn : List Nat)
    (h1 : envS sto sn rn env sto' env' := by simp [envS, go_sem, wkV, wkL, AV.ids, idsL, keysOf, ren, stoOf, slTrees, AV.asOwn, rowPart, AV.isNil, shA, rowsT, cellsT, cellT, wkLL, pairT, secT, secsV, List.take_of_length_le] <;> assumption)
    (h2 : stoS sto sn rn sto' sto' := by simp [stoS, go_sem, wkV, wkL, wkO, AV.ids, Ob.ids, idsL, keysOf, ren, AV.one, stoOf, slTrees, AV.asOwn, rowPart, AV.isNil, shA, rowsT, cellsT, cellT, wkLL, pairT, secT, secsV, List.take_of_length_le] <;> assumption)
    (h3 : ((keysOf sto').map (ren rn)).Nodup := by simp [keysOf, ren]) (h4 : ∀ i ∈ sn, 100 ≤ i ∧ isRow (stoOf sto i) = true ∧ ∀ j ∈ keysOf sto', ren rn j ≠ i := by simp [stoOf, keysOf, ren])
    (h5 : ∀ i ∈ io, ren rn i = i := by simp [keysOf, ren]) (h6 : ∀ i ∈ keysOf sto', ren rn i ∈ io → i = ren rn i := by simp [keysOf, ren]) :
    Sub io ⟨envOf env, stoOf sto⟩ ⟨envOf env', stoOf sto'⟩ := subL rn sn h1 h2 h3 h4 h5 h6

theorem f_ref12_Folds (t : List UInt8) (ht : t.length ≤ 1000000) : Meets Tryz.prog E0 n_ref12_Folds [Str (toB t)] [] (.tp [.t (.sl 4 (readM foldT foldE t).1), I (readM foldT foldE t).2]) [] := by
  refine st0 m_ref12_Folds ?_
  have hP := f_ref11_Parse t (by omega)
  have hs := parse_small t
  have hok := parse_ok t
  unfold readM
  simp only [go_sem, s_ref12_Folds]
  refine Cl_plain hP ?_
  generalize cfParse t = x at *
  obtain ⟨l, e⟩ := x
  simp only at hs hok ⊢
  by_cases he : e = 0
  · have d0 : decide (e = 0) = true := decide_eq_true he
    rw [if_pos he]
    have hlen : (l.map secT).length = l.length := by simp
    simp only [go_sem, d0, secsV]
    refine W_loop (fun i : Nat => l.length - i) (fun i => i ≤ l.length ∧ errAll foldE (l.take i) = 0)
      (fun i => [(4, .t (.sl 2 (l.map secT))), (6, .own 999 4 0 (l.take i).length (!(l.take i).isEmpty)), (7, I i)])
      (fun i => [(999, .row 4 (!(l.take i).isEmpty) ((l.take i).map foldT))]) 0 ⟨Nat.zero_le _, rfl⟩ ?_ ?_
    · simp only [List.take_zero, List.map_nil, List.length_nil, List.isEmpty_nil, Bool.not_true]
      exact (sR_RuRefF [(999, 888)] [])
    · rintro i ⟨hi, hf⟩
      by_cases hil : i < l.length
      · have d1 : decide (i < l.length) = true := decide_eq_true hil
        obtain ⟨s, hs1⟩ := get_of_lt hil
        have hg : (l.map secT)[i]? = some [.v (.string (toB s.1)), .sl 2 (s.2.map pairT)] := by rw [List.getElem?_map, hs1]; rfl
        have ei : IntKind.i64.wrap ((i : Int) + 1) = ((i + 1 : Nat) : Int) := by rw [wrap_i64_of (by omega) (by omega)]; omega
        have hm := List.mem_of_getElem? hs1
        have hG1 := f_ref11_Get s.1 s.2 kPat (by have := hs.2 s hm; omega)
        have hG2 := f_ref11_Get s.1 s.2 kFac (by have := hs.2 s hm; omega)
        have hG3 := f_ref11_Get s.1 s.2 kMet (by have := hs.2 s hm; omega)
        have hO : Meets Tryz.prog E0 n_ref12_only [.ag [Str (toB s.1), .t (.sl 2 (s.2.map pairT))], .t (.sl 1 [[.v (.string (toB kPat))], [.v (.string (toB kFac))], [.v (.string (toB kMet))]])] [] (Bo (onlyM s.2 [kPat, kFac, kMet])) [] := f_ref12_only s.1 s.2 [kPat, kFac, kMet] (by have := hs.2 s hm; omega) (by decide)
        have hC := f_ref09_Compile_any (toB ((cfGet s.2 kPat).getD []))
        have hR := f_ref03_Parse ((cfGet s.2 kFac).getD [])
        have hM := f_ref12_Method ((cfGet s.2 kMet).getD [])
        have hT := errAll_take hf hs1
        have hE := foldE_eq (hok s hm).1
        have htk : (l.take (i + 1)) = l.take i ++ [s] := by rw [List.take_add_one, hs1]; rfl
        have hil2 : (l.take i).length = i := by rw [List.length_take]; omega
        have b4 : (i + 1) * 48 ≤ 2 ^ 47 := by omega
        have b5 : i + 1 < 2 ^ 47 := by omega
        have em : (l.take i).map foldT ++ [[.v (.string (toB s.1)), .v (.string (toB ((cfGet s.2 kPat).getD []))), .v (.int .i64 (facM (cfGet s.2 kFac)).1), .v (.int .i64 (metM (cfGet s.2 kMet)).1)]] = (l.take i ++ [s]).map foldT := by simp [foldT]
        have hml : ((l.take i).map foldT).length = i := by rw [List.length_map]; exact hil2
        unfold foldR compE at hE
        rw [hE] at hT
        simp only [go_sem, s_ref12_Folds_b0, d1, hg, hlen, bsPat, bsFac, bsMet]
        refine Cl_plain hG1 ?_
        cases hp : (cfGet s.2 kPat).isSome
        · rw [hp] at hT
          simp only [Bool.false_and, Bool.false_eq_true, if_false] at hT
          have h7 := hT.2 (by decide)
          rw [h7, if_neg (by decide)]
          simp only [go_sem, d1, hg, hlen]
          refine wS [] ?_
          simp only [go_sem, r_ref12_Folds, exists_eq_left', Option.some.injEq]
          simp [wkV, wkL, slTrees, AV.asOwn, rowPart, stoOf, AV.isNil, shA, rowsT, cellsT, cellT]
        · rw [hp] at hT
          simp only [Bool.true_and] at hT
          simp only [go_sem, d1, hg, hlen, bsPat, bsFac, bsMet]
          refine Cl_keep [137] hO ?_ (by simp [stoOf]) rfl ?_
          · exact .ag (.one (Wk.refl _) (.one (Wk.refl _) .nil)) (.one (Wk.row (by simp [slTrees, AV.asOwn, rowPart, stoOf]) (by simp)) .nil)
          cases ho : onlyM s.2 [kPat, kFac, kMet]
          · rw [ho] at hT
            simp only [Bool.false_eq_true, if_false] at hT
            have h7 := hT.2 (by decide)
            rw [h7, if_neg (by decide)]
            simp only [go_sem, d1, hg, hlen]
            refine wS [] ?_
            simp only [go_sem, r_ref12_Folds, exists_eq_left', Option.some.injEq]
            simp [wkV, wkL, slTrees, AV.asOwn, rowPart, stoOf, AV.isNil, shA, rowsT, cellsT, cellT]
          · rw [ho] at hT
            simp only [if_true] at hT
            simp only [go_sem, d1, hg, hlen]
            refine Cl_plain hC ?_
            generalize compM (toB ((cfGet s.2 kPat).getD [])).data.toList = cx at *
            obtain ⟨⟨ca, cb, cc⟩, ce⟩ := cx
            simp only at hT
            unfold needleV
            by_cases hce : ce = 0
            · have d3 : decide (ce = 0) = true := decide_eq_true hce
              simp only [if_pos hce] at hT
              simp only [go_sem, d3, d1, hg, hlen, bsPat, bsFac, bsMet]
              refine Cl_plain hG2 ?_
              have key : ∀ (f m : Int), f = (facM (cfGet s.2 kFac)).1 → m = (metM (cfGet s.2 kMet)).1 → (l.take i).map foldT ++ [[.v (.string (toB s.1)), .v (.string (toB ((cfGet s.2 kPat).getD []))), .v (.int .i64 f), .v (.int .i64 m)]] = (l.take i ++ [s]).map foldT := fun f m h1 h2 => by rw [h1, h2]; exact em
              unfold facM metM factorM at hT key
              generalize hgF : cfGet s.2 kFac = oF at *
              generalize hgM : cfGet s.2 kMet = oM at *
              generalize methM (oM.getD []) = mm at *
              obtain ⟨m1, mok⟩ := mm
              generalize dcParse (oF.getD []) = dd at *
              obtain ⟨fv, fe⟩ := dd
              simp only at hT key
              cases hoF : oF.isSome
              · simp only [hoF, Bool.false_eq_true, if_false, if_true] at hT key
                simp only [go_sem, d1, hg, hlen, bsPat, bsFac, bsMet]
                refine Cl_plain hG3 ?_
                cases hoM : oM.isSome
                · simp only [hoM, Bool.false_eq_true, if_false] at hT key
                  have hn := hT.1 trivial
                  rw [htk] at hn
                  have em1 := key _ _ rfl rfl
                  simp only [go_sem, d1, hg, hlen, hil2, b4, b5, em1, hml, ei]
                  refine rd_of (i + 1) (by first | omega | (simp only; omega)) ⟨hil, by rw [htk]; exact hn⟩ ?_
                  simp only [htk, List.length_append, List.length_cons, List.length_nil, Nat.zero_add, hil2, show (l.take i ++ [s]).isEmpty = false from by simp, Bool.not_false]
                  exact (sR_RuRefF [(999, 231)] [])
                · simp only [hoM, if_true] at hT key
                  simp only [go_sem, d1, hg, hlen]
                  refine Cl_plain hM ?_
                  cases mok
                  · simp only [Bool.false_eq_true, if_false] at hT
                    have h7 := hT.2 (by decide)
                    rw [h7, if_neg (by decide)]
                    simp only [go_sem]
                    refine wS [] ?_
                    simp only [go_sem, r_ref12_Folds, exists_eq_left', Option.some.injEq]
                    simp [wkV, wkL, slTrees, AV.asOwn, rowPart, stoOf, AV.isNil, shA, rowsT, cellsT, cellT]
                  · simp only [if_true] at hT
                    have hn := hT.1 trivial
                    rw [htk] at hn
                    have em1 := key _ _ rfl rfl
                    simp only [go_sem, d1, hg, hlen, hil2, b4, b5, em1, hml, ei]
                    refine rd_of (i + 1) (by first | omega | (simp only; omega)) ⟨hil, by rw [htk]; exact hn⟩ ?_
                    simp only [htk, List.length_append, List.length_cons, List.length_nil, Nat.zero_add, hil2, show (l.take i ++ [s]).isEmpty = false from by simp, Bool.not_false]
                    exact (sR_RuRefF [(999, 231)] [])
              · simp only [hoF, if_true] at hT key
                simp only [go_sem, d1, hg, hlen]
                refine Cl_plain hR ?_
                by_cases hfe : fe = 0
                · have d5 : decide (fe = 0) = true := decide_eq_true hfe
                  simp only [if_pos hfe] at hT key
                  by_cases hf1 : fv < 0
                  · have d6 : decide (fv < 0) = true := decide_eq_true hf1
                    simp only [if_pos hf1, if_neg (show ¬ ((3 : Int) = 0) by decide)] at hT
                    have h7 := hT.2 (by decide)
                    rw [h7, if_neg (by decide)]
                    simp only [go_sem, d5, d6]
                    refine wS [] ?_
                    simp only [go_sem, r_ref12_Folds, exists_eq_left', Option.some.injEq]
                    simp [wkV, wkL, slTrees, AV.asOwn, rowPart, stoOf, AV.isNil, shA, rowsT, cellsT, cellT]
                  · have d6 : decide (fv < 0) = false := decide_eq_false hf1
                    simp only [if_neg hf1] at hT key
                    by_cases hf2 : 1000000 < fv
                    · have d7 : decide (1000000 < fv) = true := decide_eq_true hf2
                      simp only [if_pos hf2, if_neg (show ¬ ((3 : Int) = 0) by decide)] at hT
                      have h7 := hT.2 (by decide)
                      rw [h7, if_neg (by decide)]
                      simp only [go_sem, d5, d6, d7]
                      refine wS [] ?_
                      simp only [go_sem, r_ref12_Folds, exists_eq_left', Option.some.injEq]
                      simp [wkV, wkL, slTrees, AV.asOwn, rowPart, stoOf, AV.isNil, shA, rowsT, cellsT, cellT]
                    · have d7 : decide (1000000 < fv) = false := decide_eq_false hf2
                      simp only [if_neg hf2, if_true] at hT key
                      simp only [go_sem, d5, d6, d7, d1, hg, hlen, bsPat, bsFac, bsMet]
                      refine Cl_plain hG3 ?_
                      cases hoM : oM.isSome
                      · simp only [hoM, Bool.false_eq_true, if_false] at hT key
                        have hn := hT.1 trivial
                        rw [htk] at hn
                        have em1 := key _ _ rfl rfl
                        simp only [go_sem, d1, hg, hlen, hil2, b4, b5, em1, hml, ei]
                        refine rd_of (i + 1) (by first | omega | (simp only; omega)) ⟨hil, by rw [htk]; exact hn⟩ ?_
                        simp only [htk, List.length_append, List.length_cons, List.length_nil, Nat.zero_add, hil2, show (l.take i ++ [s]).isEmpty = false from by simp, Bool.not_false]
                        exact (sR_RuRefF [(999, 231)] [])
                      · simp only [hoM, if_true] at hT key
                        simp only [go_sem, d1, hg, hlen]
                        refine Cl_plain hM ?_
                        cases mok
                        · simp only [Bool.false_eq_true, if_false] at hT
                          have h7 := hT.2 (by decide)
                          rw [h7, if_neg (by decide)]
                          simp only [go_sem]
                          refine wS [] ?_
                          simp only [go_sem, r_ref12_Folds, exists_eq_left', Option.some.injEq]
                          simp [wkV, wkL, slTrees, AV.asOwn, rowPart, stoOf, AV.isNil, shA, rowsT, cellsT, cellT]
                        · simp only [if_true] at hT
                          have hn := hT.1 trivial
                          rw [htk] at hn
                          have em1 := key _ _ rfl rfl
                          simp only [go_sem, d1, hg, hlen, hil2, b4, b5, em1, hml, ei]
                          refine rd_of (i + 1) (by first | omega | (simp only; omega)) ⟨hil, by rw [htk]; exact hn⟩ ?_
                          simp only [htk, List.length_append, List.length_cons, List.length_nil, Nat.zero_add, hil2, show (l.take i ++ [s]).isEmpty = false from by simp, Bool.not_false]
                          exact (sR_RuRefF [(999, 231)] [])
                · have d5 : decide (fe = 0) = false := decide_eq_false hfe
                  simp only [if_neg hfe] at hT
                  have h7 := hT.2 hfe
                  rw [h7, if_neg hfe]
                  simp only [go_sem, d5]
                  refine wS [] ?_
                  simp only [go_sem, r_ref12_Folds, exists_eq_left', Option.some.injEq]
                  simp [wkV, wkL, slTrees, AV.asOwn, rowPart, stoOf, AV.isNil, shA, rowsT, cellsT, cellT]
            · have d3 : decide (ce = 0) = false := decide_eq_false hce
              simp only [if_neg hce] at hT
              have h7 := hT.2 hce
              rw [h7, if_neg hce]
              simp only [go_sem, d3]
              refine wS [] ?_
              simp only [go_sem, r_ref12_Folds, exists_eq_left', Option.some.injEq]
              simp [wkV, wkL, slTrees, AV.asOwn, rowPart, stoOf, AV.isNil, shA, rowsT, cellsT, cellT]
      · obtain rfl : i = l.length := by omega
        have d1 : decide (l.length < l.length) = false := decide_eq_false (by omega)
        rw [List.take_length] at hf
        rw [if_pos hf]
        simp only [List.take_length]
        simp only [go_sem, s_ref12_Folds_b0, d1, hlen, s_ref12_Folds_t1]
        cases l with
        | nil =>
          refine wS [] ?_
          simp only [go_sem, r_ref12_Folds, exists_eq_left', Option.some.injEq]
          simp [wkV, wkL, slTrees, AV.asOwn, rowPart, stoOf, AV.isNil, shA, rowsT, cellsT, cellT]
        | cons s l =>
          refine wS [999] ?_
          simp only [go_sem, r_ref12_Folds, exists_eq_left', Option.some.injEq]
          simp [wkV, wkL, slTrees, AV.asOwn, rowPart, stoOf, AV.isNil, shA, rowsT, cellsT, cellT, List.take_of_length_le]
  · have d0 : decide (e = 0) = false := decide_eq_false he
    rw [if_neg he]
    simp only [go_sem, d0]
    refine wS [] ?_
    simp only [go_sem, r_ref12_Folds, exists_eq_left', Option.some.injEq]
    simp [wkV, wkL, slTrees, AV.asOwn, rowPart, stoOf, AV.isNil, shA, rowsT, cellsT, cellT]

end Go.Proofs.YtaeleljlpcjcdaaGreatDoor
namespace Go.Proofs.YtaeleljlpcjcdaaGreatDoor
open Go Go.Sx

theorem sR_RuLawP {io : List Nat} {env : List (Nat × AV)} {sto : List (Nat × Ob)} {env' : List (Nat × AV)} {sto' : List (Nat × Ob)} (rn : List (Nat × Nat)) (sn : List Nat)
    (h1 : envS sto sn rn env sto' env' := by simp [envS, go_sem, wkV, wkL, AV.ids, idsL, keysOf, ren, stoOf, slTrees, AV.asOwn, rowPart, AV.isNil, shA, rowsT, cellsT, cellT, wkLL, stT, fdT] <;> assumption)
    (h2 : stoS sto sn rn sto' sto' := by simp [stoS, go_sem, wkV, wkL, wkO, AV.ids, Ob.ids, idsL, keysOf, ren, AV.one, stoOf, slTrees, AV.asOwn, rowPart, AV.isNil, shA, rowsT, cellsT, cellT, wkLL, stT, fdT] <;> assumption)
    (h3 : ((keysOf sto').map (ren rn)).Nodup := by simp [keysOf, ren]) (h4 : ∀ i ∈ sn, 100 ≤ i ∧ isRow (stoOf sto i) = true ∧ ∀ j ∈ keysOf sto', ren rn j ≠ i := by simp [stoOf, keysOf, ren])
    (h5 : ∀ i ∈ io, ren rn i = i := by simp [keysOf, ren]) (h6 : ∀ i ∈ keysOf sto', ren rn i ∈ io → i = ren rn i := by simp [keysOf, ren]) :
    Sub io ⟨envOf env, stoOf sto⟩ ⟨envOf env', stoOf sto'⟩ := subL rn sn h1 h2 h3 h4 h5 h6

theorem f_ref12_SameStores (l : List StoreV) (h : l.length ≤ 1000000) (h2 : ∀ s ∈ l, s.2.2.length ≤ 1000) : Meets Tryz.prog E0 n_ref12_SameStores [.t (.sl 3 (l.map stT)), .t (.sl 3 (l.map stT))] [] (Bo true) [] := by
  refine st0 m_ref12_SameStores ?_
  have hlen : (l.map stT).length = l.length := by simp
  have d1 : decide (l.length = l.length) = true := decide_eq_true rfl
  simp only [go_sem, s_ref12_SameStores, hlen, d1]
  refine W_loop (fun i : Nat => l.length - i) (fun i => i ≤ l.length) (fun i => [(0, .t (.sl 3 (l.map stT))), (1, .t (.sl 3 (l.map stT))), (5, I i)]) (fun _ => []) 0 (Nat.zero_le _) (sR_RuLawP [] []) ?_
  intro i hi
  by_cases hil : i < l.length
  · have d0 : decide (i < l.length) = true := decide_eq_true hil
    obtain ⟨s, hs⟩ := get_of_lt hil
    have hS := f_ref08_SameRungs s.2.2 (by have := h2 s (List.mem_of_getElem? hs); unfold maxLen; omega)
    have ei : IntKind.i64.wrap ((i : Int) + 1) = ((i + 1 : Nat) : Int) := by rw [wrap_i64_of (by omega) (by omega)]; omega
    have hg : (l.map stT)[i]? = some [.v (.string (toB s.1)), .v (.string (toB s.2.1)), .sl 2 (s.2.2.map slT)] := by rw [List.getElem?_map, hs]; rfl
    have q : ∀ x : List UInt8, binStr .neq (toB x) (toB x) = some (.bool false) := fun x => by rw [neT]; simp
    simp only [go_sem, hlen, d0, hg, q]
    refine Cl_plain hS ?_
    simp only [go_sem, ei]
    ((try (with_reducible refine rF ?_)); (try simp only [go_sem, ei]))
    exact rd_of (i + 1) (by first | omega | (simp only; omega)) (by first | omega | (simp only; omega)) (sR_RuLawP [] [])
  · obtain rfl : i = l.length := by omega
    have d0 : decide (l.length < l.length) = false := decide_eq_false (by omega)
    simp only [go_sem, hlen, d0]
    refine wE ?_
    simp only [go_sem, r_ref12_SameStores]

theorem f_ref12_SameFolds (l : List FoldV) (h : l.length ≤ 1000000) : Meets Tryz.prog E0 n_ref12_SameFolds [.t (.sl 4 (l.map fdT)), .t (.sl 4 (l.map fdT))] [] (Bo true) [] := by
  refine st0 m_ref12_SameFolds ?_
  have hlen : (l.map fdT).length = l.length := by simp
  have d1 : decide (l.length = l.length) = true := decide_eq_true rfl
  simp only [go_sem, s_ref12_SameFolds, hlen, d1]
  refine W_loop (fun i : Nat => l.length - i) (fun i => i ≤ l.length) (fun i => [(0, .t (.sl 4 (l.map fdT))), (1, .t (.sl 4 (l.map fdT))), (5, I i)]) (fun _ => []) 0 (Nat.zero_le _) (sR_RuLawP [] []) ?_
  intro i hi
  by_cases hil : i < l.length
  · have d0 : decide (i < l.length) = true := decide_eq_true hil
    obtain ⟨s, hs⟩ := get_of_lt hil
    have ei : IntKind.i64.wrap ((i : Int) + 1) = ((i + 1 : Nat) : Int) := by rw [wrap_i64_of (by omega) (by omega)]; omega
    have hg : (l.map fdT)[i]? = some [.v (.string (toB s.1)), .v (.string (toB s.2.1)), .v (.int .i64 s.2.2.1), .v (.int .i64 s.2.2.2)] := by rw [List.getElem?_map, hs]; rfl
    simp only [go_sem, hlen, d0, hg, beq_self_eq_true]
    ((try (with_reducible refine rF ?_)); (try simp only [go_sem, hlen, d0, hg, beq_self_eq_true, ei]))
    exact rd_of (i + 1) (by first | omega | (simp only; omega)) (by first | omega | (simp only; omega)) (sR_RuLawP [] [])
  · obtain rfl : i = l.length := by omega
    have d0 : decide (l.length < l.length) = false := decide_eq_false (by omega)
    simp only [go_sem, hlen, d0]
    refine wE ?_
    simp only [go_sem, r_ref12_SameFolds]

theorem read_stores (t : List UInt8) : ∃ l : List StoreV, (readM storeT storeE t).1 = l.map stT ∧ l.length ≤ 16 ∧ ∀ s ∈ l, s.2.2.length ≤ 1000 := by
  have hs := parse_small t
  unfold readM
  split
  · split
    · refine ⟨(cfParse t).1.map fun s => (s.1, (cfGet s.2 kPat).getD [], (rungsM ((cfGet s.2 kRet).getD [])).1), ?_, by rw [List.length_map]; exact hs.1, ?_⟩
      · rw [List.map_map]; rfl
      · intro s hm
        obtain ⟨c, _, rfl⟩ := List.mem_map.1 hm
        simp only
        unfold rungsM rtParse
        split
        · simp
        · split
          · simp
          · split
            · simp
            · split
              · simp only; omega
              · simp
    · exact ⟨[], rfl, by simp, by simp⟩
  · exact ⟨[], rfl, by simp, by simp⟩

theorem read_folds (t : List UInt8) : ∃ l : List FoldV, (readM foldT foldE t).1 = l.map fdT ∧ l.length ≤ 16 := by
  have hs := parse_small t
  unfold readM
  split
  · split
    · refine ⟨(cfParse t).1.map fun s => (s.1, (cfGet s.2 kPat).getD [], (facM (cfGet s.2 kFac)).1, (metM (cfGet s.2 kMet)).1), ?_, by rw [List.length_map]; exact hs.1⟩
      rw [List.map_map]; rfl
    · exact ⟨[], rfl, by simp⟩
  · exact ⟨[], rfl, by simp⟩

theorem f_law12_RulesParses (t n : List UInt8) (m : Int) (hm1 : -9223372036854775808 ≤ m) (hm2 : m < 9223372036854775808) : Meets Tryz.prog E0 n_law12_RulesParses [Str (toB t), Str (toB n), I m] [] (Bo true) [] := by
  refine st0 m_law12_RulesParses ?_
  have n1 := f_rules_Name m hm1 hm2
  have n2 := f_ref12_Name m hm1 hm2
  have m1 := f_rules_Method n
  have m2 := f_ref12_Method n
  have hG : ∀ y : Int, decide (y = y) = true := fun y => decide_eq_true rfl
  have q1 : binStr .eql (toB (nameM m)) (toB (nameM m)) = some (.bool true) := (eqT _ _).trans (by simp)
  by_cases hn : 5000 < t.length
  · have d0 : decide ((5000 : Int) < (t.length : Int)) = true := decide_eq_true (by omega)
    simp only [go_sem, s_law12_RulesParses]
    refine Cl_plain f_law12_alive ?_
    simp only [go_sem, toB_size, d0]
    refine wE ?_
    simp only [go_sem, r_law12_RulesParses]
  · have d0 : decide ((5000 : Int) < (t.length : Int)) = false := decide_eq_false (by omega)
    have c1 := f_rules_Stores t (by omega)
    have c2 := f_ref12_Stores t (by omega)
    have c3 := f_rules_Folds t (by omega)
    have c4 := f_ref12_Folds t (by omega)
    obtain ⟨l1, e1, e2, e3⟩ := read_stores t
    obtain ⟨l2, e4, e5⟩ := read_folds t
    have c5 := f_ref12_SameStores l1 (by omega) e3
    have c6 := f_ref12_SameFolds l2 (by omega)
    rw [e1] at c1 c2
    rw [e4] at c3 c4
    generalize (readM storeT storeE t).2 = x1 at *
    generalize (readM foldT foldE t).2 = x2 at *
    generalize l1.map stT = r1 at *
    generalize l2.map fdT = r2 at *
    generalize methM n = mm at *
    obtain ⟨y1, y2⟩ := mm
    simp only [go_sem, s_law12_RulesParses]
    refine Cl_plain f_law12_alive ?_
    simp only [go_sem, toB_size, d0]
    refine Cl_plain c1 ?_
    simp only [go_sem]
    refine Cl_plain c2 ?_
    simp only [go_sem]
    refine Cl_plain c3 ?_
    simp only [go_sem]
    refine Cl_plain c4 ?_
    simp only [go_sem]
    refine Cl_plain m1 ?_
    simp only [go_sem]
    refine Cl_plain m2 ?_
    simp only [go_sem]
    refine Cl_plain c5 ?_
    simp only [go_sem, hG]
    refine Cl_plain c6 ?_
    simp only [go_sem, hG, beq_self_eq_true]
    refine Cl_plain n1 ?_
    simp only [go_sem]
    refine Cl_plain n2 ?_
    simp only [go_sem, q1]
    ((try (with_reducible refine rF ?_)); (try simp only [go_sem, q1]))
    refine wE ?_
    simp only [go_sem, r_law12_RulesParses]

end Go.Proofs.YtaeleljlpcjcdaaGreatDoor
