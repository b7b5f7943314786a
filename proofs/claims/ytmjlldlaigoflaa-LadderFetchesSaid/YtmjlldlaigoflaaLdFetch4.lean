/- The contract of the law on what is fetched of ladders. No statement of the seat is proved here. -/
import Derived.Test.YtmjlldlaigoflaaLdFetch3
import Derived.Test.YtmjlldlaigoflaaLdLaw2
import Derived.Test.YtmjlldlaigoflaaRgSame
set_option linter.unusedSimpArgs false
set_option linter.unusedVariables false
namespace Go.Proofs.Ytmjlldlaigoflaa
open Go Go.Sx

theorem f_ref14_SameSeries (s : ByteArray) (st sp : Int) (l : List Num) (hl : l.length ≤ maxLen) : Meets Try.prog E0 n_ref14_SameSeries [serV s st sp l, serV s st sp l] [] (Bo true) [] := by
  refine m_ref14_SameSeries (by simp) (shut0 rfl) (shut0 rfl) (by simp) (by simp [keysOf]) ?_
  have b1 := f_ref02_Same l l hl
  rw [decide_eq_true rfl] at b1
  clear hl
  have e1 : binStr .eql s s = some (.bool true) := by simp [binStr]
  have e2 : ∀ i : Int, decide (i = i) = true := fun i => decide_eq_true rfl
  repeat' (first | (with_reducible refine Cl_plain (b1) ?_) | (simp only [go_sem, s_ref14_SameSeries, beq_self_eq_true, eq_self, ↓reduceIte, Nat.reduceEqDiff, Nat.reduceAdd, Nat.reduceLeDiff, reduceCtorEq, Nat.reduceLT, Int.reduceLT, Int.reduceLE, Int.reduceEq, Int.reduceToNat, Nat.reduceMul, *]) | (simp (disch := omega) only [s_ref14_SameSeries, beq_self_eq_true, eq_self, wrap_i64_of, i64_quo, i64_rem, sdiv, smod]) | ((with_reducible refine W_split (by with_unfolding_all exact rfl) (fun hsp => ?_) (fun hsp => ?_)) <;> (try simp only [Bool.not_true, Bool.not_false, decide_eq_true_eq, decide_eq_false_iff_not, Bool.not_eq_true', Bool.not_eq_false', not_false_eq_true] at hsp)) | ((with_reducible refine R_split (by with_unfolding_all exact rfl) (fun hsp => ?_) (fun hsp => ?_)) <;> (try simp only [Bool.not_true, Bool.not_false, decide_eq_true_eq, decide_eq_false_iff_not, Bool.not_eq_true', Bool.not_eq_false', not_false_eq_true] at hsp)) | (with_reducible refine R_fin (by repeat' (first | exact okp0 | refine okp rfl rfl rfl ?_)) ?_))
  refine wends (by first | exact Or.inl rfl | exact Or.inr rfl) ?_ (by first | rfl | simp [AV.ids, idsL])
  simp only [go_sem, r_ref14_SameSeries, ↓reduceIte, Nat.reduceEqDiff, Nat.reduceAdd, Nat.reduceLeDiff, reduceCtorEq, Nat.reduceLT, Int.reduceLT, Int.reduceLE, Int.reduceEq, Int.reduceToNat, Nat.reduceMul]

theorem fet_len (m f : Int) (rs : List Ring) (fr un now : Int) : (fetM m f rs fr un now).1.2.2.length ≤ 400 := by
  unfold fetM
  split
  · rename_i hok
    simp only [Bool.and_eq_true, decide_eq_true_eq] at hok
    obtain ⟨⟨⟨⟨h1, h2⟩, h3⟩, h4⟩, h5⟩ := hok
    obtain ⟨p1, p2, p3, p4, p5⟩ := lad_parts h5
    split
    · rename_i r hr
      have hgr : ringB r.1 r.2 = true := List.all_eq_true.1 p2 r (List.mem_of_getElem? hr)
      have := (num_bd (fr := fr) (un := un) (now := now) hgr (timedB_iff.1 h1).1 (timedB_iff.1 h3).1).1
      have hs := ringB_sized hgr
      simp only [fetR, valL_len]
      omega
    · simp
  · simp

theorem f_law14_LadderFetches (m f : Int) (l : List Ring) (fr un now : Int) (hn : l.length ≤ reachBytes) (hr : ∀ r ∈ l, r.2.length ≤ reachBytes) :
    Meets Try.prog E0 n_law14_LadderFetches [ladV m f l, .ag [I fr, I un, I now]] [] (Bo true) [] := by
  refine m_law14_LadderFetches (by simp) (shut0 rfl) (shut0 rfl) (by simp) (by simp [keysOf]) ?_
  have b0 := f_law14_great m f l hn hr
  cases hg : grF l (l.length : Int)
  · obtain ⟨g1, g2⟩ := gr_small hg
    have g2 := g2 (by omega)
    have hm : maxLen = 9223372036854775807 := rfl
    have b1 := f_ref14_Copy m f l (by omega) (fun r hr => by have := g2 r hr; omega)
    have b2 := f_ladder_Fetch m f l fr un now (by omega)
    have b3 := f_ref14_Fetch m f l fr un now (by omega)
    have b4 := f_ladder_Pick m f l fr now (by omega)
    have b5 := f_ref14_Pick m f l fr now (by omega)
    have hA := fet_len m f l fr un now
    have b6 := f_ref14_SameSeries (bs []) (fetM m f l fr un now).1.1 (fetM m f l fr un now).1.2.1 (fetM m f l fr un now).1.2.2 (by omega)
    have b7 := f_ref14_Same m f m f l l (by omega) (fun r hr => by have := g2 r hr; omega)
    rw [decide_eq_true (show _ ∧ _ ∧ _ from ⟨rfl, rfl, rfl⟩)] at b7
    rw [hg] at b0
    generalize fetM m f l fr un now = A at *
    generalize pickA m f l fr now = B at *
    have hA4 : decide ((A.1.2.2.length : Int) ≤ 400) = true := decide_eq_true (by omega)
    have e2 : ∀ i : Int, decide (i = i) = true := fun i => decide_eq_true rfl
    clear g1 g2 hn hr hm hg hA
    repeat' (first | (with_reducible refine Cl_plain (f_law14_alive) ?_) | (with_reducible refine Cl_plain (b0) ?_) | (with_reducible refine Cl_plain (b1) ?_) | (with_reducible refine Cl_plain (b2) ?_) | (with_reducible refine Cl_plain (b3) ?_) | (with_reducible refine Cl_plain (b4) ?_) | (with_reducible refine Cl_plain (b5) ?_) | (with_reducible refine Cl_plain (b6) ?_) | (with_reducible refine Cl_plain (b7) ?_) | (simp only [go_sem, s_law14_LadderFetches, beq_self_eq_true, eq_self, ↓reduceIte, Nat.reduceEqDiff, Nat.reduceAdd, Nat.reduceLeDiff, reduceCtorEq, Nat.reduceLT, Int.reduceLT, Int.reduceLE, Int.reduceEq, Int.reduceToNat, Nat.reduceMul, *]) | (simp (disch := omega) only [s_law14_LadderFetches, beq_self_eq_true, eq_self, wrap_i64_of, i64_quo, i64_rem, sdiv, smod]) | ((with_reducible refine W_split (by with_unfolding_all exact rfl) (fun hsp => ?_) (fun hsp => ?_)) <;> (try simp only [Bool.not_true, Bool.not_false, decide_eq_true_eq, decide_eq_false_iff_not, Bool.not_eq_true', Bool.not_eq_false', not_false_eq_true] at hsp)) | ((with_reducible refine R_split (by with_unfolding_all exact rfl) (fun hsp => ?_) (fun hsp => ?_)) <;> (try simp only [Bool.not_true, Bool.not_false, decide_eq_true_eq, decide_eq_false_iff_not, Bool.not_eq_true', Bool.not_eq_false', not_false_eq_true] at hsp)) | (with_reducible refine R_fin (by repeat' (first | exact okp0 | refine okp rfl rfl rfl ?_)) ?_))
    refine wends (by first | exact Or.inl rfl | exact Or.inr rfl) ?_ (by first | rfl | simp [AV.ids, idsL])
    simp only [go_sem, r_law14_LadderFetches, ↓reduceIte, Nat.reduceEqDiff, Nat.reduceAdd, Nat.reduceLeDiff, reduceCtorEq, Nat.reduceLT, Int.reduceLT, Int.reduceLE, Int.reduceEq, Int.reduceToNat, Nat.reduceMul]
  · rw [hg] at b0
    clear hg hn hr
    repeat' (first | (with_reducible refine Cl_plain (f_law14_alive) ?_) | (with_reducible refine Cl_plain (b0) ?_) | (simp only [go_sem, s_law14_LadderFetches, ↓reduceIte, Nat.reduceEqDiff, Nat.reduceAdd, Nat.reduceLeDiff, reduceCtorEq, Nat.reduceLT, Int.reduceLT, Int.reduceLE, Int.reduceEq, Int.reduceToNat, Nat.reduceMul, *]) | (simp (disch := omega) only [s_law14_LadderFetches, wrap_i64_of, i64_quo, i64_rem, sdiv, smod]) | ((with_reducible refine W_split (by with_unfolding_all exact rfl) (fun hsp => ?_) (fun hsp => ?_)) <;> (try simp only [Bool.not_true, Bool.not_false, decide_eq_true_eq, decide_eq_false_iff_not, Bool.not_eq_true', Bool.not_eq_false', not_false_eq_true] at hsp)) | ((with_reducible refine R_split (by with_unfolding_all exact rfl) (fun hsp => ?_) (fun hsp => ?_)) <;> (try simp only [Bool.not_true, Bool.not_false, decide_eq_true_eq, decide_eq_false_iff_not, Bool.not_eq_true', Bool.not_eq_false', not_false_eq_true] at hsp)) | (with_reducible refine R_fin (by repeat' (first | exact okp0 | refine okp rfl rfl rfl ?_)) ?_))
    refine wends (by first | exact Or.inl rfl | exact Or.inr rfl) ?_ (by first | rfl | simp [AV.ids, idsL])
    simp only [go_sem, r_law14_LadderFetches, ↓reduceIte, Nat.reduceEqDiff, Nat.reduceAdd, Nat.reduceLeDiff, reduceCtorEq, Nat.reduceLT, Int.reduceLT, Int.reduceLE, Int.reduceEq, Int.reduceToNat, Nat.reduceMul]

end Go.Proofs.Ytmjlldlaigoflaa
