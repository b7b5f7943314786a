/- The contract of the plain ring's live slots. No statement of the seat is proved here. -/
import Derived.Test.YtmafaockdiodfaaRgLiveM
import Derived.Test.YtmafaockdiodfaaRgSet
import Derived.Test.YtmafaockdiodfaaRgSame
set_option linter.unusedSimpArgs false
set_option linter.unusedVariables false
namespace Go.Proofs.Ytmafaockdiodfaa
open Go Go.Sx

theorem ins_at {s : Slot} : ∀ {l : List Slot} {k : Nat}, Asc l → k ≤ l.length → (∀ x, k ≠ 0 → l[k - 1]? = some x → x.1 ≤ s.1) → (∀ x ∈ l.drop k, s.1 < x.1) → insS s l = l.take k ++ s :: l.drop k
  | [], k, _, hk, _, _ => by simp [insS]
  | x :: l, 0, _, _, _, h => by
    have := h x (by simp)
    simp [insS, this]
  | x :: l, k + 1, ha, hk, h1, h2 => by
    unfold Asc at ha
    rw [List.pairwise_cons] at ha
    have hk' : k ≤ l.length := by simpa using hk
    have hx : ¬ s.1 < x.1 := by
      rcases Nat.eq_zero_or_pos k with h0 | h0
      · subst h0
        have := h1 x (by omega) (by simp)
        omega
      · obtain ⟨y, hy⟩ := get_of_lt (l := l) (i := k - 1) (by omega)
        have hy1 := h1 y (by omega) (by rw [show k + 1 - 1 = (k - 1) + 1 by omega, List.getElem?_cons_succ]; exact hy)
        have := ha.1 y (List.mem_of_getElem? hy)
        omega
    simp only [insS, if_neg hx, List.take_succ_cons, List.drop_succ_cons, List.cons_append]
    rw [ins_at ha.2 hk' (fun y hk0 hy => h1 y (by omega) (by rw [show k + 1 - 1 = (k - 1) + 1 by omega, List.getElem?_cons_succ]; exact hy)) (fun y hy => h2 y (by simpa using hy))]

def liveT (l : List Slot) (i : Nat) : List Slot := sortS ((l.take i).filter fun s => !decide (s.1 = -1))

theorem liveT_succ {l : List Slot} {i : Nat} {s : Slot} (h : l[i]? = some s) : liveT l (i + 1) = if s.1 = -1 then liveT l i else insS s (liveT l i) := by
  unfold liveT
  rw [List.take_add_one, h, List.filter_append]
  by_cases hs : s.1 = -1
  · simp [hs]
  · rw [if_neg hs]
    simp only [Option.toList_some]
    rw [List.filter_cons_of_pos (by simp [hs]), List.filter_nil]
    unfold sortS
    rw [List.foldl_append]; rfl

theorem liveT_asc {w : Int} {l : List Slot} (h : ringB w l = true) (i : Nat) : Asc (liveT l i) := by
  refine sort_asc ?_
  exact (live_ne h).sublist ((List.take_sublist i l).filter _)

theorem liveT_len (l : List Slot) (i : Nat) : (liveT l i).length ≤ i := by
  unfold liveT
  rw [(sort_perm _).length_eq]
  exact Nat.le_trans (List.length_filter_le _ _) (by rw [List.length_take]; omega)

theorem f_ref13_Live (w : Int) (l : List Slot) : Meets Try.prog E0 n_ref13_Live [ringV w l] [] (slL (liveM w l)) [] := by
  refine m_ref13_Live (by simp) (shut0 rfl) (shut0 rfl) (by simp) (by simp [keysOf]) ?_
  have b1 := f_ref13_Right w l
  cases hr : ringB w l
  · rw [hr] at b1
    have e : liveM w l = [] := by simp [liveM, hr]
    rw [e]
    simp only [go_sem, s_ref13_Live, ↓reduceIte, Nat.reduceEqDiff, Nat.reduceAdd, Nat.reduceLeDiff, reduceCtorEq, Nat.reduceLT, Int.reduceLT, Int.reduceLE, Int.reduceEq, Int.reduceToNat, Nat.reduceMul]
    refine Cl_plain b1 ?_
    simp only [go_sem, ↓reduceIte, Nat.reduceEqDiff, Nat.reduceAdd, Nat.reduceLeDiff, reduceCtorEq, Nat.reduceLT, Int.reduceLT, Int.reduceLE, Int.reduceEq, Int.reduceToNat, Nat.reduceMul]
    refine wends2 [] [] (by first | exact Or.inl rfl | exact Or.inr rfl) ?_ (by simp [AV.ids, idsL]) (by simp [stoS]) (by simp [keysOf]) (by simp [stoOf, keysOf] <;> assumption) (by simp [keysOf]) (by simp [keysOf])
    simp only [go_sem, r_ref13_Live, exists_eq_left', Option.some.injEq, ↓reduceIte, Nat.reduceEqDiff, Nat.reduceAdd, Nat.reduceLeDiff, reduceCtorEq, Nat.reduceLT, Int.reduceLT, Int.reduceLE, Int.reduceEq, Int.reduceToNat, Nat.reduceMul]
    simp [wkV, wkL, slTrees, AV.asOwn, rowPart, stoOf, AV.isNil]
  · rw [hr] at b1
    have hs := ringB_sized hr
    have e : liveM w l = liveT l l.length := by simp only [liveM, hr, if_true, liveT, List.take_length]
    rw [e]
    simp only [go_sem, s_ref13_Live, ↓reduceIte, Nat.reduceEqDiff, Nat.reduceAdd, Nat.reduceLeDiff, reduceCtorEq, Nat.reduceLT, Int.reduceLT, Int.reduceLE, Int.reduceEq, Int.reduceToNat, Nat.reduceMul]
    refine Cl_plain b1 ?_
    simp only [go_sem, ↓reduceIte, Nat.reduceEqDiff, Nat.reduceAdd, Nat.reduceLeDiff, reduceCtorEq, Nat.reduceLT, Int.reduceLT, Int.reduceLE, Int.reduceEq, Int.reduceToNat, Nat.reduceMul]
    refine W_loop (fun i : Nat => l.length - i) (fun i => i ≤ l.length)
      (fun i => [(1, .ptr 100 0), (3, .own 999 2 0 (liveT l i).length (!(liveT l i).isEmpty)), (4, I i)])
      (fun i => [(100, .box [I w, slL l]), (999, .row 2 (!(liveT l i).isEmpty) ((liveT l i).map slT))])
      0 (Nat.zero_le _) ?_ ?_
    · rw [show liveT l 0 = [] from rfl]
      exact (subL [(999, 888)] [] (by simp [envS, go_sem, wkV, wkL, AV.ids, idsL, keysOf, ren, stoOf, slTrees, AV.asOwn, rowPart, AV.isNil] <;> assumption) (by simp [stoS, go_sem, wkV, wkL, wkO, AV.ids, Ob.ids, idsL, keysOf, ren, AV.one, stoOf, slTrees, AV.asOwn, rowPart, AV.isNil] <;> assumption) (by simp [keysOf, ren]) (by simp [stoOf, keysOf, ren]) (by simp [keysOf, ren]) (by simp [keysOf, ren]))
    intro i hi
    simp only [go_sem, ↓reduceIte, Nat.reduceEqDiff, Nat.reduceAdd, Nat.reduceLeDiff, reduceCtorEq, Nat.reduceLT, Int.reduceLT, Int.reduceLE, Int.reduceEq, Int.reduceToNat, Nat.reduceMul]
    refine W_split rfl (fun h => ?_) (fun h => ?_)
    · simp at h
      obtain ⟨s, hget⟩ := get_of_lt h
      have ei : IntKind.i64.wrap ((i : Int) + 1) = ((i + 1 : Nat) : Int) := by rw [wrap_i64_of (by omega) (by omega)]; omega
      have hsucc := liveT_succ hget
      have hasc := liveT_asc hr i
      have hlen := liveT_len l i
      cases hd : decide (s.1 = -1)
      case true =>
        rw [if_pos (of_decide_eq_true hd)] at hsucc
        simp only [go_sem, hget, slT, hd, ↓reduceIte, Nat.reduceEqDiff, Nat.reduceAdd, Nat.reduceLeDiff, reduceCtorEq, Nat.reduceLT, Int.reduceLT, Int.reduceLE, Int.reduceEq, Int.reduceToNat, Nat.reduceMul]
        simp only [go_sem, ei, ↓reduceIte, Nat.reduceEqDiff, Nat.reduceAdd, Nat.reduceLeDiff, reduceCtorEq, Nat.reduceLT, Int.reduceLT, Int.reduceLE, Int.reduceEq, Int.reduceToNat, Nat.reduceMul]
        refine rd_of (i + 1) (by first | omega | (simp only; omega)) (by first | omega | (simp only; omega)) ?_
        rw [hsucc]
        exact (subL [] [] (by simp [envS, go_sem, wkV, wkL, AV.ids, idsL, keysOf, ren, stoOf, slTrees, AV.asOwn, rowPart, AV.isNil] <;> assumption) (by simp [stoS, go_sem, wkV, wkL, wkO, AV.ids, Ob.ids, idsL, keysOf, ren, AV.one, stoOf, slTrees, AV.asOwn, rowPart, AV.isNil] <;> assumption) (by simp [keysOf, ren]) (by simp [stoOf, keysOf, ren]) (by simp [keysOf, ren]) (by simp [keysOf, ren]))
      have hd' := of_decide_eq_false hd
      rw [if_neg hd'] at hsucc
      generalize hA : liveT l i = A at *
      simp only [go_sem, hget, slT, hd, ↓reduceIte, Nat.reduceEqDiff, Nat.reduceAdd, Nat.reduceLeDiff, reduceCtorEq, Nat.reduceLT, Int.reduceLT, Int.reduceLE, Int.reduceEq, Int.reduceToNat, Nat.reduceMul]
      refine W_loop (fun k : Nat => k) (fun k => k ≤ A.length ∧ ∀ x ∈ A.drop k, s.1 < x.1)
        (fun k => [(1, .ptr 100 0), (3, .own 999 2 0 A.length (!A.isEmpty)), (4, I i), (5, I k)])
        (fun k => [(100, .box [I w, slL l]), (999, .row 2 (!A.isEmpty) (A.map slT))])
        A.length ⟨Nat.le_refl _, by simp⟩ (subL [] [] (by simp [envS, go_sem, wkV, wkL, AV.ids, idsL, keysOf, ren, stoOf, slTrees, AV.asOwn, rowPart, AV.isNil] <;> assumption) (by simp [stoS, go_sem, wkV, wkL, wkO, AV.ids, Ob.ids, idsL, keysOf, ren, AV.one, stoOf, slTrees, AV.asOwn, rowPart, AV.isNil] <;> assumption) (by simp [keysOf, ren]) (by simp [stoOf, keysOf, ren]) (by simp [keysOf, ren]) (by simp [keysOf, ren])) ?_
      rintro k ⟨hk, hgt⟩
      have fin : (k = 0 ∨ ∃ x, A[k - 1]? = some x ∧ x.1 ≤ s.1) → insS s A = A.take k ++ s :: A.drop k := by
        intro h
        refine ins_at hasc hk (fun x hk0 hx => ?_) hgt
        rcases h with h | ⟨y, hy, hys⟩
        · exact absurd h hk0
        · rw [hx] at hy; injection hy with hy; subst hy; exact hys
      have g1 : (0 : Int) ≤ (k : Int) := by omega
      have g2 : (k : Int) ≤ (A.length : Int) := by omega
      have eN : ((A.length : Int) - (k : Int)).toNat = A.length - k := by omega
      have c1 : k + (A.length - k) ≤ A.length := by omega
      have c2 : k * 16 ≤ 2 ^ 47 := by omega
      have c3 : k < 2 ^ 47 := by omega
      have c4 : (k + 1) * 16 ≤ 2 ^ 47 := by omega
      have c5 : k + 1 < 2 ^ 47 := by omega
      have c6 : (k + 1 + (A.length - k)) * 16 ≤ 2 ^ 47 := by omega
      have c7 : k + 1 + (A.length - k) < 2 ^ 47 := by omega
      have hT : (A.map slT).take k = (A.take k).map slT := List.map_take.symm
      have hTl : (A.take k).length = k := by rw [List.length_take]; omega
      have hD : ((A.map slT).drop k).take (A.length - k) = (A.drop k).map slT := by rw [← List.map_drop, List.take_of_length_le (by simp)]
      have hDl : (A.drop k).length = A.length - k := by simp
      have hil : (insS s A).length = k + 1 + (A.length - k) := by rw [(ins_perm s A).length_eq, List.length_cons]; omega
      have hie : (insS s A).isEmpty = false := by
        cases hx : insS s A with
        | nil => rw [hx] at hil; simp at hil; omega
        | cons _ _ => rfl
      cases hk0 : decide ((0 : Int) < (k : Int))
      · have hk00 : k = 0 := by have := of_decide_eq_false hk0; omega
        have hfin := fin (Or.inl hk00)
        have em : (A.take k).map slT ++ [[T.v (.int .i64 s.1), T.v (.int .i64 s.2)]] ++ (A.drop k).map slT = (insS s A).map slT := by rw [hfin]; simp [slT]
        simp only [go_sem, hk0, g1, g2, eN, hk, hT, hTl, c2, c3, ↓reduceIte, Nat.reduceEqDiff, Nat.reduceAdd, Nat.reduceLeDiff, reduceCtorEq, Nat.reduceLT, Int.reduceLT, Int.reduceLE, Int.reduceEq, Int.reduceToNat, Nat.reduceMul]
        simp only [go_sem, hget, slT, hTl, c4, c5, g1, g2, eN, c1, hD, hDl, c6, c7, em, ↓reduceIte, Nat.reduceEqDiff, Nat.reduceAdd, Nat.reduceLeDiff, reduceCtorEq, Nat.reduceLT, Int.reduceLT, Int.reduceLE, Int.reduceEq, Int.reduceToNat, Nat.reduceMul]
        ((try (with_reducible refine R_fin (by repeat' (first | exact okp0 | refine okp rfl rfl rfl ?_)) ?_)); (try simp only [go_sem, ei, hget, slT, hTl, c4, c5, g1, g2, eN, c1, hD, hDl, c6, c7, em, ↓reduceIte, Nat.reduceEqDiff, Nat.reduceAdd, Nat.reduceLeDiff, reduceCtorEq, Nat.reduceLT, Int.reduceLT, Int.reduceLE, Int.reduceEq, Int.reduceToNat, Nat.reduceMul]))
        refine rd_of (i + 1) (by first | omega | (simp only; omega)) (by first | omega | (simp only; omega)) ?_
        rw [hsucc, hil, hie]
        exact (subL [(999, 158)] [] (by simp [envS, go_sem, wkV, wkL, AV.ids, idsL, keysOf, ren, stoOf, slTrees, AV.asOwn, rowPart, AV.isNil] <;> assumption) (by simp [stoS, go_sem, wkV, wkL, wkO, AV.ids, Ob.ids, idsL, keysOf, ren, AV.one, stoOf, slTrees, AV.asOwn, rowPart, AV.isNil] <;> assumption) (by simp [keysOf, ren]) (by simp [stoOf, keysOf, ren]) (by simp [keysOf, ren]) (by simp [keysOf, ren]))
      · have hk00 := of_decide_eq_true hk0
        obtain ⟨y, hy⟩ := get_of_lt (l := A) (i := k - 1) (by omega)
        have ek : IntKind.i64.wrap ((k : Int) - 1) = ((k - 1 : Nat) : Int) := by rw [wrap_i64_of (by omega) (by omega)]; omega
        have ib : ((k - 1 : Nat) : Int) < (A.length : Int) := by omega
        have hAe : A.isEmpty = false := by cases A with | nil => simp at hy | cons _ _ => rfl
        rw [hAe]
        cases hgt2 : decide (s.1 < y.1)
        · have hfin := fin (Or.inr ⟨y, hy, by have := of_decide_eq_false hgt2; omega⟩)
          simp only [go_sem, hk0, ek, ib, hy, slT, hget, hgt2, ↓reduceIte, Nat.reduceEqDiff, Nat.reduceAdd, Nat.reduceLeDiff, reduceCtorEq, Nat.reduceLT, Int.reduceLT, Int.reduceLE, Int.reduceEq, Int.reduceToNat, Nat.reduceMul]
          ((try (with_reducible refine R_fin (by repeat' (first | exact okp0 | refine okp rfl rfl rfl ?_)) ?_)); (try simp only [go_sem, hk0, ek, ib, hy, slT, hget, hgt2, ↓reduceIte, Nat.reduceEqDiff, Nat.reduceAdd, Nat.reduceLeDiff, reduceCtorEq, Nat.reduceLT, Int.reduceLT, Int.reduceLE, Int.reduceEq, Int.reduceToNat, Nat.reduceMul]))
          have em : (A.take k).map slT ++ [[T.v (.int .i64 s.1), T.v (.int .i64 s.2)]] ++ (A.drop k).map slT = (insS s A).map slT := by rw [hfin]; simp [slT]
          simp only [go_sem, g1, g2, eN, hk, hT, hTl, c2, c3, ↓reduceIte, Nat.reduceEqDiff, Nat.reduceAdd, Nat.reduceLeDiff, reduceCtorEq, Nat.reduceLT, Int.reduceLT, Int.reduceLE, Int.reduceEq, Int.reduceToNat, Nat.reduceMul]
          simp only [go_sem, hget, slT, hTl, c4, c5, g1, g2, eN, c1, hD, hDl, c6, c7, em, ↓reduceIte, Nat.reduceEqDiff, Nat.reduceAdd, Nat.reduceLeDiff, reduceCtorEq, Nat.reduceLT, Int.reduceLT, Int.reduceLE, Int.reduceEq, Int.reduceToNat, Nat.reduceMul]
          ((try (with_reducible refine R_fin (by repeat' (first | exact okp0 | refine okp rfl rfl rfl ?_)) ?_)); (try simp only [go_sem, ei, hget, slT, hTl, c4, c5, g1, g2, eN, c1, hD, hDl, c6, c7, em, ↓reduceIte, Nat.reduceEqDiff, Nat.reduceAdd, Nat.reduceLeDiff, reduceCtorEq, Nat.reduceLT, Int.reduceLT, Int.reduceLE, Int.reduceEq, Int.reduceToNat, Nat.reduceMul]))
          refine rd_of (i + 1) (by first | omega | (simp only; omega)) (by first | omega | (simp only; omega)) ?_
          rw [hsucc, hil, hie]
          exact (subL [(999, 158)] [] (by simp [envS, go_sem, wkV, wkL, AV.ids, idsL, keysOf, ren, stoOf, slTrees, AV.asOwn, rowPart, AV.isNil] <;> assumption) (by simp [stoS, go_sem, wkV, wkL, wkO, AV.ids, Ob.ids, idsL, keysOf, ren, AV.one, stoOf, slTrees, AV.asOwn, rowPart, AV.isNil] <;> assumption) (by simp [keysOf, ren]) (by simp [stoOf, keysOf, ren]) (by simp [keysOf, ren]) (by simp [keysOf, ren]))
        · have hgt3 := of_decide_eq_true hgt2
          simp only [go_sem, hk0, ek, ib, hy, slT, hget, hgt2, ↓reduceIte, Nat.reduceEqDiff, Nat.reduceAdd, Nat.reduceLeDiff, reduceCtorEq, Nat.reduceLT, Int.reduceLT, Int.reduceLE, Int.reduceEq, Int.reduceToNat, Nat.reduceMul]
          ((try (with_reducible refine R_fin (by repeat' (first | exact okp0 | refine okp rfl rfl rfl ?_)) ?_)); (try simp only [go_sem, hk0, ek, ib, hy, slT, hget, hgt2, ↓reduceIte, Nat.reduceEqDiff, Nat.reduceAdd, Nat.reduceLeDiff, reduceCtorEq, Nat.reduceLT, Int.reduceLT, Int.reduceLE, Int.reduceEq, Int.reduceToNat, Nat.reduceMul]))
          refine rd_of (k - 1) (by first | omega | (simp only; omega)) ⟨by first | omega | (simp only; omega), ?_⟩ ?_
          rotate_left
          · exact (subL [] [] (by simp [envS, go_sem, wkV, wkL, AV.ids, idsL, keysOf, ren, stoOf, slTrees, AV.asOwn, rowPart, AV.isNil] <;> assumption) (by simp [stoS, go_sem, wkV, wkL, wkO, AV.ids, Ob.ids, idsL, keysOf, ren, AV.one, stoOf, slTrees, AV.asOwn, rowPart, AV.isNil] <;> assumption) (by simp [keysOf, ren]) (by simp [stoOf, keysOf, ren]) (by simp [keysOf, ren]) (by simp [keysOf, ren]))
          intro x hx
          rw [show A.drop (k - 1) = y :: A.drop k by rw [drop_get hy, show k - 1 + 1 = k by omega]] at hx
          rcases List.mem_cons.1 hx with rfl | hx
          · exact hgt3
          · exact hgt x hx
    · have e : i = l.length := by simp at h; omega
      subst e
      simp only [go_sem, ↓reduceIte, Nat.reduceEqDiff, Nat.reduceAdd, Nat.reduceLeDiff, reduceCtorEq, Nat.reduceLT, Int.reduceLT, Int.reduceLE, Int.reduceEq, Int.reduceToNat, Nat.reduceMul]
      cases hA : liveT l l.length with
      | nil =>
        refine wends2 [] [] (by first | exact Or.inl rfl | exact Or.inr rfl) ?_ (by simp [AV.ids, idsL]) (by simp [stoS]) (by simp [keysOf]) (by simp [stoOf, keysOf] <;> assumption) (by simp [keysOf]) (by simp [keysOf])
        simp only [go_sem, r_ref13_Live, exists_eq_left', Option.some.injEq, ↓reduceIte, Nat.reduceEqDiff, Nat.reduceAdd, Nat.reduceLeDiff, reduceCtorEq, Nat.reduceLT, Int.reduceLT, Int.reduceLE, Int.reduceEq, Int.reduceToNat, Nat.reduceMul]
        simp [wkV, wkL, slTrees, AV.asOwn, rowPart, stoOf, AV.isNil]
      | cons a A =>
        refine wends2 [] [999] (by first | exact Or.inl rfl | exact Or.inr rfl) ?_ (by simp [AV.ids, idsL]) (by simp [stoS]) (by simp [keysOf]) (by simp [stoOf, keysOf] <;> assumption) (by simp [keysOf]) (by simp [keysOf])
        simp only [go_sem, r_ref13_Live, exists_eq_left', Option.some.injEq, ↓reduceIte, Nat.reduceEqDiff, Nat.reduceAdd, Nat.reduceLeDiff, reduceCtorEq, Nat.reduceLT, Int.reduceLT, Int.reduceLE, Int.reduceEq, Int.reduceToNat, Nat.reduceMul]
        simp [wkV, wkL, slTrees, AV.asOwn, rowPart, stoOf, AV.isNil, List.take_of_length_le]

end Go.Proofs.Ytmafaockdiodfaa
