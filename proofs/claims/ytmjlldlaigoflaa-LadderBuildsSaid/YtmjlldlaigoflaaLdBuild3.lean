/- The contract of the law on ladders that are built of slots. No statement of the seat is proved here. -/
import Derived.Test.YtmjlldlaigoflaaLdBuild2
set_option linter.unusedSimpArgs false
set_option linter.unusedVariables false
namespace Go.Proofs.Ytmjlldlaigoflaa
open Go Go.Sx

theorem put_rung (l : List Ring) (x : Rec) : (putL l x).map rungM = l.map rungM := by
  unfold putL
  split
  · rename_i r hr
    rw [List.map_set, rung_set]
    apply List.ext_getElem?
    intro k
    rw [List.getElem?_set]
    split
    · rename_i h
      subst h
      simp only [List.length_map]
      split
      · rw [List.getElem?_map, hr]; rfl
      · rename_i h
        rw [List.getElem?_eq_none (by simpa using h)]
    · rfl
  · rfl

theorem bld_rung : ∀ (xs : List Rec) (l l' : List Ring), bldL l xs = some l' → l'.map rungM = l.map rungM
  | [], l, l', h => by simp only [bldL, Option.some.injEq] at h; rw [h]
  | x :: xs, l, l', h => by
    simp only [bldL] at h
    split at h
    · rw [bld_rung xs _ l' h, put_rung]
    · cases h

theorem bld_len (rs : List Rung) (m f : Int) (xs : List Rec) : (bldM rs m f xs).1.2.2.length ≤ maxLen ∧ ∀ r ∈ (bldM rs m f xs).1.2.2, r.2.length ≤ maxLen := by
  have hm : maxLen = 9223372036854775807 := rfl
  unfold bldM
  split
  · rename_i hc
    simp only [Bool.and_eq_true] at hc
    have ht := tog_len hc.2
    split
    · rename_i l hl
      have h1 := bld_rung _ _ _ hl
      obtain ⟨h2, h3⟩ := rung_len h1 (k := 400) (fun r hr => by
        obtain ⟨x, hx, rfl⟩ := List.mem_map.1 hr
        have := szB_iff.1 (List.all_eq_true.1 (tog_all hc.2) x hx)
        simp only [newR, List.length_replicate]; omega)
      rw [List.length_map] at h2
      exact ⟨by simp only; omega, fun r hr => by have := h3 r hr; omega⟩
    · exact ⟨by simp, by simp⟩
  · exact ⟨by simp, by simp⟩

theorem f_law14_LadderBuilds (rs : List Rung) (m f : Int) (xs : List Rec) (hv : InV xs) : Meets Try.prog E0 n_law14_LadderBuilds [schV rs m f, recL xs] [] (Bo true) [] := by
  refine m_law14_LadderBuilds (by simp) (shut0 rfl) (shut0 rfl) (by simp) (by simp [keysOf]) ?_
  cases d1 : decide (500 < (xs.length : Int))
  case true =>
    clear hv
    repeat' (first | (with_reducible refine Cl_plain (f_law14_alive) ?_) | (simp only [go_sem, s_law14_LadderBuilds, ↓reduceIte, Nat.reduceEqDiff, Nat.reduceAdd, Nat.reduceLeDiff, reduceCtorEq, Nat.reduceLT, Int.reduceLT, Int.reduceLE, Int.reduceEq, Int.reduceToNat, Nat.reduceMul, *]) | (simp (disch := omega) only [s_law14_LadderBuilds, wrap_i64_of, i64_quo, i64_rem, sdiv, smod]) | ((with_reducible refine W_split (by with_unfolding_all exact rfl) (fun hsp => ?_) (fun hsp => ?_)) <;> (try simp only [Bool.not_true, Bool.not_false, decide_eq_true_eq, decide_eq_false_iff_not, Bool.not_eq_true', Bool.not_eq_false', not_false_eq_true] at hsp)) | ((with_reducible refine R_split (by with_unfolding_all exact rfl) (fun hsp => ?_) (fun hsp => ?_)) <;> (try simp only [Bool.not_true, Bool.not_false, decide_eq_true_eq, decide_eq_false_iff_not, Bool.not_eq_true', Bool.not_eq_false', not_false_eq_true] at hsp)) | (with_reducible refine R_fin (by repeat' (first | exact okp0 | refine okp rfl rfl rfl ?_)) ?_))
    refine wends (by first | exact Or.inl rfl | exact Or.inr rfl) ?_ (by first | rfl | simp [AV.ids, idsL])
    simp only [go_sem, r_law14_LadderBuilds, ↓reduceIte, Nat.reduceEqDiff, Nat.reduceAdd, Nat.reduceLeDiff, reduceCtorEq, Nat.reduceLT, Int.reduceLT, Int.reduceLE, Int.reduceEq, Int.reduceToNat, Nat.reduceMul]
  cases d2 : decide (1000 < (rs.length : Int))
  case true =>
    clear hv
    repeat' (first | (with_reducible refine Cl_plain (f_law14_alive) ?_) | (simp only [go_sem, s_law14_LadderBuilds, ↓reduceIte, Nat.reduceEqDiff, Nat.reduceAdd, Nat.reduceLeDiff, reduceCtorEq, Nat.reduceLT, Int.reduceLT, Int.reduceLE, Int.reduceEq, Int.reduceToNat, Nat.reduceMul, *]) | (simp (disch := omega) only [s_law14_LadderBuilds, wrap_i64_of, i64_quo, i64_rem, sdiv, smod]) | ((with_reducible refine W_split (by with_unfolding_all exact rfl) (fun hsp => ?_) (fun hsp => ?_)) <;> (try simp only [Bool.not_true, Bool.not_false, decide_eq_true_eq, decide_eq_false_iff_not, Bool.not_eq_true', Bool.not_eq_false', not_false_eq_true] at hsp)) | ((with_reducible refine R_split (by with_unfolding_all exact rfl) (fun hsp => ?_) (fun hsp => ?_)) <;> (try simp only [Bool.not_true, Bool.not_false, decide_eq_true_eq, decide_eq_false_iff_not, Bool.not_eq_true', Bool.not_eq_false', not_false_eq_true] at hsp)) | (with_reducible refine R_fin (by repeat' (first | exact okp0 | refine okp rfl rfl rfl ?_)) ?_))
    refine wends (by first | exact Or.inl rfl | exact Or.inr rfl) ?_ (by first | rfl | simp [AV.ids, idsL])
    simp only [go_sem, r_law14_LadderBuilds, ↓reduceIte, Nat.reduceEqDiff, Nat.reduceAdd, Nat.reduceLeDiff, reduceCtorEq, Nat.reduceLT, Int.reduceLT, Int.reduceLE, Int.reduceEq, Int.reduceToNat, Nat.reduceMul]
  have c1 := of_decide_eq_false d1
  have c2 := of_decide_eq_false d2
  have b1 := f_ladder_Build rs m f xs (by omega) (by omega) hv
  have b2 := f_ref14_Build rs m f xs (by omega) (by omega) hv
  have hq := bld_len rs m f xs
  have b3 := f_ref14_Same (bldM rs m f xs).1.1 (bldM rs m f xs).1.2.1 (bldM rs m f xs).1.1 (bldM rs m f xs).1.2.1 _ (bldM rs m f xs).1.2.2 hq.1 hq.2
  rw [decide_eq_true (show _ ∧ _ ∧ _ from ⟨rfl, rfl, rfl⟩)] at b3
  clear hq c1 c2 hv
  generalize bldM rs m f xs = N at *
  have e2 : ∀ i : Int, decide (i = i) = true := fun i => decide_eq_true rfl
  repeat' (first | (with_reducible refine Cl_plain (f_law14_alive) ?_) | (with_reducible refine Cl_plain (b1) ?_) | (with_reducible refine Cl_plain (b2) ?_) | (with_reducible refine Cl_plain (b3) ?_) | (simp only [go_sem, s_law14_LadderBuilds, eq_self, ↓reduceIte, Nat.reduceEqDiff, Nat.reduceAdd, Nat.reduceLeDiff, reduceCtorEq, Nat.reduceLT, Int.reduceLT, Int.reduceLE, Int.reduceEq, Int.reduceToNat, Nat.reduceMul, *]) | (simp (disch := omega) only [s_law14_LadderBuilds, eq_self, wrap_i64_of, i64_quo, i64_rem, sdiv, smod]) | ((with_reducible refine W_split (by with_unfolding_all exact rfl) (fun hsp => ?_) (fun hsp => ?_)) <;> (try simp only [Bool.not_true, Bool.not_false, decide_eq_true_eq, decide_eq_false_iff_not, Bool.not_eq_true', Bool.not_eq_false', not_false_eq_true] at hsp)) | ((with_reducible refine R_split (by with_unfolding_all exact rfl) (fun hsp => ?_) (fun hsp => ?_)) <;> (try simp only [Bool.not_true, Bool.not_false, decide_eq_true_eq, decide_eq_false_iff_not, Bool.not_eq_true', Bool.not_eq_false', not_false_eq_true] at hsp)) | (with_reducible refine R_fin (by repeat' (first | exact okp0 | refine okp rfl rfl rfl ?_)) ?_))
  refine wends (by first | exact Or.inl rfl | exact Or.inr rfl) ?_ (by first | rfl | simp [AV.ids, idsL])
  simp only [go_sem, r_law14_LadderBuilds, ↓reduceIte, Nat.reduceEqDiff, Nat.reduceAdd, Nat.reduceLeDiff, reduceCtorEq, Nat.reduceLT, Int.reduceLT, Int.reduceLE, Int.reduceEq, Int.reduceToNat, Nat.reduceMul]

end Go.Proofs.Ytmjlldlaigoflaa
