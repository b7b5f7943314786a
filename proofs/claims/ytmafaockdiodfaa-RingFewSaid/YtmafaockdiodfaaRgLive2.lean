/- The contracts of a ring's live slots. No statement of the seat is proved here. -/
import Derived.Test.YtmafaockdiodfaaRgLive
import Derived.Test.YtmafaockdiodfaaRgLiveM
import Derived.Test.YtmafaockdiodfaaShelf
import Derived.Test.YtmafaockdiodfaaWdLen
import Derived.Test.YtmafaockdiodfaaSxSort
set_option linter.unusedSimpArgs false
set_option linter.unusedVariables false
namespace Go.Proofs.Ytmafaockdiodfaa
open Go Go.Sx

def encS (s : Slot) : List Value := [.int .i64 s.1, .int .i64 s.2]
def cfS (s t : Slot) : Int := cmpI s.1 t.1

theorem lt_cf (s t : Slot) : ltOf cfS s t = decide (s.1 < t.1) := by
  unfold ltOf cfS cmpI
  rw [decide_eq_decide]
  split
  · simp; assumption
  · split <;> simp <;> omega

theorem swo_cf : Go.Sort.SWO (ltOf cfS) where
  irrefl := fun x => by rw [lt_cf]; simp
  trans := fun x y z => by simp only [lt_cf, decide_eq_true_eq]; omega
  ntrans := fun x y z => by simp only [lt_cf, decide_eq_false_iff_not]; omega

theorem f_insertion_0 (g : Nat) (rest : List (List T)) : Meets Try.prog E0 n_slices_insertionSortCmpFunc_api_Slot [.own 0 2 0 0 true, I 0, I 0, .fn g [] []] [(0, .row 2 true rest)] (.tp []) [(0, .row 2 true rest)] := by
  refine m_slices_insertionSortCmpFunc_api_Slot (by simp) (shut_of (by simp [idsL, AV.ids, keysOf]) (by simp [Ob.live, Ob.ids, keysOf, idsL, AV.ids])) (shut_of (by simp [idsL, AV.ids, keysOf]) (by simp [Ob.live, Ob.ids, keysOf, idsL, AV.ids])) (by simp [keysOf]) (by simp [keysOf]) ?_
  have e1 : IntKind.i64.wrap (0 + 1) = 1 := by decide
  have d1 : decide ((1 : Int) < 0) = false := rfl
  simp only [go_sem, s_slices_insertionSortCmpFunc_api_Slot, e1, ↓reduceIte, Nat.reduceEqDiff, Nat.reduceAdd, Nat.reduceLeDiff, reduceCtorEq, Nat.reduceLT, Int.reduceLT, Int.reduceLE, Int.reduceEq, Int.reduceToNat, Nat.reduceMul]
  refine W_loop (fun _ : Unit => 0) (fun _ => True) (fun _ => [(0, .own 0 2 0 0 true), (1, I 0), (2, I 0), (3, .fn g [] []), (8, I 1)]) (fun _ => [(0, .row 2 true rest)]) () trivial (subL [] [] (by simp [envS, go_sem, wkV, wkL, AV.ids, idsL, keysOf, ren, stoOf, slTrees, AV.asOwn, rowPart, AV.isNil] <;> assumption) (by simp [stoS, go_sem, wkV, wkL, wkO, AV.ids, Ob.ids, idsL, keysOf, ren, AV.one, stoOf, slTrees, AV.asOwn, rowPart, AV.isNil] <;> assumption) (by simp [keysOf, ren]) (by simp [stoOf, keysOf, ren]) (by simp [keysOf, ren]) (by simp [keysOf, ren])) ?_
  intro _ _
  simp only [go_sem, d1, ↓reduceIte, Nat.reduceEqDiff, Nat.reduceAdd, Nat.reduceLeDiff, reduceCtorEq, Nat.reduceLT, Int.reduceLT, Int.reduceLE, Int.reduceEq, Int.reduceToNat, Nat.reduceMul]
  refine wends2 [] [] (by first | exact Or.inl rfl | exact Or.inr rfl) ?_ (by simp [AV.ids, idsL, keysOf]) (by simp [stoS, wkO, ls_cons, ls_nil, stoOf, ren, keysOf, Ob.ids, wkV, wkL, AV.one, idsL, AV.ids] <;> assumption) (by simp [keysOf, ren]) (by simp [stoOf, keysOf, ren]) (by simp [keysOf, ren]) (by simp [keysOf, ren])
  simp only [go_sem, r_slices_insertionSortCmpFunc_api_Slot, exists_eq_left', Option.some.injEq, ↓reduceIte, Nat.reduceEqDiff, Nat.reduceAdd, Nat.reduceLeDiff, reduceCtorEq, Nat.reduceLT, Int.reduceLT, Int.reduceLE, Int.reduceEq, Int.reduceToNat, Nat.reduceMul]
  simp [wkV, wkL, slTrees, AV.asOwn, rowPart, stoOf, AV.isNil, ren]

theorem f_pdq_0 (g : Nat) (rest : List (List T)) : Meets Try.prog E0 n_slices_pdqsortCmpFunc_api_Slot [.own 0 2 0 0 true, I 0, I 0, I 0, .fn g [] []] [(0, .row 2 true rest)] (.tp []) [(0, .row 2 true rest)] := by
  refine m_slices_pdqsortCmpFunc_api_Slot (by simp) (shut_of (by simp [idsL, AV.ids, keysOf]) (by simp [Ob.live, Ob.ids, keysOf, idsL, AV.ids])) (shut_of (by simp [idsL, AV.ids, keysOf]) (by simp [Ob.live, Ob.ids, keysOf, idsL, AV.ids])) (by simp [keysOf]) (by simp [keysOf]) ?_
  have e1 : IntKind.i64.wrap 0 = 0 := by decide
  have d1 : decide ((0 : Int) ≤ 12) = true := rfl
  simp only [go_sem, s_slices_pdqsortCmpFunc_api_Slot, ↓reduceIte, Nat.reduceEqDiff, Nat.reduceAdd, Nat.reduceLeDiff, reduceCtorEq, Nat.reduceLT, Int.reduceLT, Int.reduceLE, Int.reduceEq, Int.reduceToNat, Nat.reduceMul]
  refine W_loop (fun _ : Unit => 0) (fun _ => True) (fun _ => [(0, .own 0 2 0 0 true), (1, I 0), (2, I 0), (3, I 0), (4, .fn g [] []), (10, Bo true), (11, Bo true)]) (fun _ => [(0, .row 2 true rest)]) () trivial (subL [] [] (by simp [envS, go_sem, wkV, wkL, AV.ids, idsL, keysOf, ren, stoOf, slTrees, AV.asOwn, rowPart, AV.isNil] <;> assumption) (by simp [stoS, go_sem, wkV, wkL, wkO, AV.ids, Ob.ids, idsL, keysOf, ren, AV.one, stoOf, slTrees, AV.asOwn, rowPart, AV.isNil] <;> assumption) (by simp [keysOf, ren]) (by simp [stoOf, keysOf, ren]) (by simp [keysOf, ren]) (by simp [keysOf, ren])) ?_
  intro _ _
  simp only [go_sem, s_slices_pdqsortCmpFunc_api_Slot_b0, e1, d1, ↓reduceIte, Nat.reduceEqDiff, Nat.reduceAdd, Nat.reduceLeDiff, reduceCtorEq, Nat.reduceLT, Int.reduceLT, Int.reduceLE, Int.reduceEq, Int.reduceToNat, Nat.reduceMul]
  have b := f_insertion_0 g rest
  refine Cl_obj (ins := _) (hin := by simp [keysOf, stoOf]) (hk := by simp [keysOf]) (nd := by simp [keysOf]) (h := b) ?_
  simp only [go_sem, ↓reduceIte, Nat.reduceEqDiff, Nat.reduceAdd, Nat.reduceLeDiff, reduceCtorEq, Nat.reduceLT, Int.reduceLT, Int.reduceLE, Int.reduceEq, Int.reduceToNat, Nat.reduceMul]
  refine wends2 [] [] (by first | exact Or.inl rfl | exact Or.inr rfl) ?_ (by simp [AV.ids, idsL, keysOf]) (by simp [stoS, wkO, ls_cons, ls_nil, stoOf, ren, keysOf, Ob.ids, wkV, wkL, AV.one, idsL, AV.ids] <;> assumption) (by simp [keysOf, ren]) (by simp [stoOf, keysOf, ren]) (by simp [keysOf, ren]) (by simp [keysOf, ren])
  simp only [go_sem, r_slices_pdqsortCmpFunc_api_Slot, exists_eq_left', Option.some.injEq, ↓reduceIte, Nat.reduceEqDiff, Nat.reduceAdd, Nat.reduceLeDiff, reduceCtorEq, Nat.reduceLT, Int.reduceLT, Int.reduceLE, Int.reduceEq, Int.reduceToNat, Nat.reduceMul]
  simp [wkV, wkL, slTrees, AV.asOwn, rowPart, stoOf, AV.isNil, ren]

theorem f_bits_Len_0 : Meets Try.prog E0 n_bits_Len [U 0] [] (I 0) [] := by
  refine m_bits_Len (by simp) (shut0 rfl) (shut0 rfl) (by simp) (by simp [keysOf]) ?_
  have b := f_bits_Len64 0 0 (by decide) ⟨by decide, Or.inl rfl⟩
  simp only [go_sem, s_bits_Len, ↓reduceIte, Nat.reduceEqDiff, Nat.reduceAdd, Nat.reduceLeDiff, reduceCtorEq, Nat.reduceLT, Int.reduceLT, Int.reduceLE, Int.reduceEq, Int.reduceToNat, Nat.reduceMul]
  refine Cl_plain b ?_
  simp only [go_sem, ↓reduceIte, Nat.reduceEqDiff, Nat.reduceAdd, Nat.reduceLeDiff, reduceCtorEq, Nat.reduceLT, Int.reduceLT, Int.reduceLE, Int.reduceEq, Int.reduceToNat, Nat.reduceMul]
  refine wends (by first | exact Or.inl rfl | exact Or.inr rfl) ?_ (by first | rfl | simp [AV.ids, idsL])
  simp only [go_sem, r_bits_Len, ↓reduceIte, Nat.reduceEqDiff, Nat.reduceAdd, Nat.reduceLeDiff, reduceCtorEq, Nat.reduceLT, Int.reduceLT, Int.reduceLE, Int.reduceEq, Int.reduceToNat, Nat.reduceMul]
  rfl

theorem f_SortFunc_0 (g : Nat) (rest : List (List T)) : Meets Try.prog E0 n_slices_SortFunc_Sapi_Slot_api_Slot [.own 0 2 0 0 true, .fn g [] []] [(0, .row 2 true rest)] (.tp []) [(0, .row 2 true rest)] := by
  refine m_slices_SortFunc_Sapi_Slot_api_Slot (by simp) (shut_of (by simp [idsL, AV.ids, keysOf]) (by simp [Ob.live, Ob.ids, keysOf, idsL, AV.ids])) (shut_of (by simp [idsL, AV.ids, keysOf]) (by simp [Ob.live, Ob.ids, keysOf, idsL, AV.ids])) (by simp [keysOf]) (by simp [keysOf]) ?_
  have e1 : IntKind.u64.wrap ((0 : Nat) : Int) = 0 := by decide
  have b := f_pdq_0 g rest
  simp only [go_sem, s_slices_SortFunc_Sapi_Slot_api_Slot, e1, ↓reduceIte, Nat.reduceEqDiff, Nat.reduceAdd, Nat.reduceLeDiff, reduceCtorEq, Nat.reduceLT, Int.reduceLT, Int.reduceLE, Int.reduceEq, Int.reduceToNat, Nat.reduceMul]
  refine Cl_plain f_bits_Len_0 ?_
  simp only [go_sem, ↓reduceIte, Nat.reduceEqDiff, Nat.reduceAdd, Nat.reduceLeDiff, reduceCtorEq, Nat.reduceLT, Int.reduceLT, Int.reduceLE, Int.reduceEq, Int.reduceToNat, Nat.reduceMul]
  refine Cl_obj (ins := _) (hin := by simp [keysOf, stoOf]) (hk := by simp [keysOf]) (nd := by simp [keysOf]) (h := b) ?_
  simp only [go_sem, ↓reduceIte, Nat.reduceEqDiff, Nat.reduceAdd, Nat.reduceLeDiff, reduceCtorEq, Nat.reduceLT, Int.reduceLT, Int.reduceLE, Int.reduceEq, Int.reduceToNat, Nat.reduceMul]
  refine wends2 [] [] (by first | exact Or.inl rfl | exact Or.inr rfl) ?_ (by simp [AV.ids, idsL, keysOf]) (by simp [stoS, wkO, ls_cons, ls_nil, stoOf, ren, keysOf, Ob.ids, wkV, wkL, AV.one, idsL, AV.ids] <;> assumption) (by simp [keysOf, ren]) (by simp [stoOf, keysOf, ren]) (by simp [keysOf, ren]) (by simp [keysOf, ren])
  simp only [go_sem, r_slices_SortFunc_Sapi_Slot_api_Slot, exists_eq_left', Option.some.injEq, ↓reduceIte, Nat.reduceEqDiff, Nat.reduceAdd, Nat.reduceLeDiff, reduceCtorEq, Nat.reduceLT, Int.reduceLT, Int.reduceLE, Int.reduceEq, Int.reduceToNat, Nat.reduceMul]
  simp [wkV, wkL, slTrees, AV.asOwn, rowPart, stoOf, AV.isNil, ren]

theorem asc_of_sorted {d : Array Slot} (h : Go.Sort.SortedIn (ltOf cfS) 0 d.size d) (hn : d.toList.Pairwise fun a b => a.1 ≠ b.1) : Asc d.toList := by
  unfold Asc
  rw [List.pairwise_iff_getElem] at hn ⊢
  intro i j hi hj hij
  have hi' : i < d.size := by simpa using hi
  have hj' : j < d.size := by simpa using hj
  have h1 := h i j (Nat.zero_le _) hij hj'
  have h2 := hn i j hi hj hij
  rw [lt_cf, getElem!_pos d j hj', getElem!_pos d i hi'] at h1
  have h3 := of_decide_eq_false h1
  simp only [Array.getElem_toList] at h2 ⊢
  omega

theorem pdq_sort {l : List Slot} (hn : l.Pairwise fun a b => a.1 ≠ b.1) : (Go.Sort.pdq (ltOf cfS) l.toArray 0 l.length (Go.Lib.bitLen l.length) true true).toList = sortS l := by
  have h := Go.Sort.pdq_sorts (ltOf cfS) swo_cf l.toArray 0 l.toArray.size (Go.Lib.bitLen l.toArray.size) true true (Nat.zero_le _) (Nat.le_refl _) (Or.inl rfl)
  simp only [List.size_toArray] at h
  generalize Go.Sort.pdq (ltOf cfS) l.toArray 0 l.length (Go.Lib.bitLen l.length) true true = d at h ⊢
  obtain ⟨⟨h1, _, h2⟩, h3⟩ := h
  simp only [List.size_toArray] at h1
  have hp : d.toList.Perm l := by
    have e1 : d.extract 0 l.length = d := by rw [← h1]; simp
    have e2 : l.toArray.extract 0 l.length = l.toArray := by rw [show l.length = l.toArray.size by simp]; simp
    rw [e1, e2] at h2
    simpa using h2
  rw [← h1] at h3
  have hn2 : d.toList.Pairwise fun a b => a.1 ≠ b.1 := (List.Perm.pairwise_iff (fun h => Ne.symm h) hp).2 hn
  exact asc_uniq (asc_of_sorted h3 hn2) (sort_asc hn) (hp.trans (sort_perm l).symm)

theorem f_SortFunc (l : List Slot) (rest : List (List T)) (hn : l.Pairwise fun a b => a.1 ≠ b.1) (hl : l.length ≤ 100000) :
    Meets Try.prog E0 n_slices_SortFunc_Sapi_Slot_api_Slot [.own 0 2 0 l.length true, .fn n_ring_Live_2 [] []] [(0, .row 2 true (l.map slT ++ rest))] (.tp []) [(0, .row 2 true ((sortS l).map slT ++ rest))] := by
  rcases Nat.eq_zero_or_pos l.length with h0 | h0
  · have : l = [] := List.length_eq_zero_iff.1 h0
    subst this
    exact f_SortFunc_0 n_ring_Live_2 rest
  · have h := sort_meets (E := E0) Try.laysSort 2 Try.isAgg57 Try.sizeOf57 encS (fun _ => rfl) (fun x v hv => by
      simp only [encS, List.mem_cons, List.not_mem_nil, or_false] at hv
      rcases hv with rfl | rfl <;> rfl) cfS swo_cf n_ring_Live_2 (fun args w => enters_of Try.func40 (by kernel_rfl) rfl args w) (fun x y => f_ring_Live_2 x y) l rest h0 (by omega)
    rw [pdq_sort hn] at h
    exact h

theorem f_ring_Live (w : Int) (l : List Slot) : Meets Try.prog E0 n_ring_Live [ringV w l] [] (slL (liveM w l)) [] := by
  refine m_ring_Live (by simp) (shut0 rfl) (shut0 rfl) (by simp) (by simp [keysOf]) ?_
  have b1 := f_ring_Right w l
  cases hr : ringB w l
  · rw [hr] at b1
    have e : liveM w l = [] := by simp [liveM, hr]
    rw [e]
    simp only [go_sem, s_ring_Live, ↓reduceIte, Nat.reduceEqDiff, Nat.reduceAdd, Nat.reduceLeDiff, reduceCtorEq, Nat.reduceLT, Int.reduceLT, Int.reduceLE, Int.reduceEq, Int.reduceToNat, Nat.reduceMul]
    refine Cl_plain b1 ?_
    simp only [go_sem, ↓reduceIte, Nat.reduceEqDiff, Nat.reduceAdd, Nat.reduceLeDiff, reduceCtorEq, Nat.reduceLT, Int.reduceLT, Int.reduceLE, Int.reduceEq, Int.reduceToNat, Nat.reduceMul]
    refine wends2 [] [] (by first | exact Or.inl rfl | exact Or.inr rfl) ?_ (by simp [AV.ids, idsL]) (by simp [stoS]) (by simp [keysOf]) (by simp [stoOf, keysOf] <;> assumption) (by simp [keysOf]) (by simp [keysOf])
    simp only [go_sem, r_ring_Live, exists_eq_left', Option.some.injEq, ↓reduceIte, Nat.reduceEqDiff, Nat.reduceAdd, Nat.reduceLeDiff, reduceCtorEq, Nat.reduceLT, Int.reduceLT, Int.reduceLE, Int.reduceEq, Int.reduceToNat, Nat.reduceMul]
    simp [wkV, wkL, slTrees, AV.asOwn, rowPart, stoOf, AV.isNil]
  · rw [hr] at b1
    have hs := ringB_sized hr
    have hne := live_ne hr
    have e : liveM w l = sortS (leftS (fun s => decide (s.1 = -1)) l) := by simp only [liveM, hr, if_true]; rfl
    have hlk := left_len (fun s => decide (s.1 = -1)) l
    have bD := (f_DeleteFunc n_ring_Live_1 (fun s => decide (s.1 = -1)) l (by omega) f_ring_Live_1).ren (fun _ => 108) (by simp [keysOf])
    have bS := (f_SortFunc (leftS (fun s => decide (s.1 = -1)) l) (List.replicate (l.length - (leftS (fun s => decide (s.1 = -1)) l).length) zeroS) hne (by omega)).ren (fun _ => 108) (by simp [keysOf])
    simp only [renL, renA, renS, renO] at bD bS
    rw [e]
    have hsl : (sortS (leftS (fun s => decide (s.1 = -1)) l)).length = (leftS (fun s => decide (s.1 = -1)) l).length := (sort_perm _).length_eq
    generalize leftS (fun s => decide (s.1 = -1)) l = k at *
    simp only [go_sem, s_ring_Live, ↓reduceIte, Nat.reduceEqDiff, Nat.reduceAdd, Nat.reduceLeDiff, reduceCtorEq, Nat.reduceLT, Int.reduceLT, Int.reduceLE, Int.reduceEq, Int.reduceToNat, Nat.reduceMul]
    refine Cl_plain b1 ?_
    simp only [go_sem, ↓reduceIte, Nat.reduceEqDiff, Nat.reduceAdd, Nat.reduceLeDiff, reduceCtorEq, Nat.reduceLT, Int.reduceLT, Int.reduceLE, Int.reduceEq, Int.reduceToNat, Nat.reduceMul]
    cases hm : l.map slT with
    | nil => simp at hm; subst hm; simp at hs
    | cons e es =>
      have hes := map_len_succ hm
      refine Cl_new (xs := [slL l]) (by rw [slL, hm]; exact f_Clone_own 108 e es (by omega)) (by simp [keysOf, stoOf]) (by simp [keysOf]) ?_
      rw [hes, ← hm]
      simp only [go_sem, ↓reduceIte, Nat.reduceEqDiff, Nat.reduceAdd, Nat.reduceLeDiff, reduceCtorEq, Nat.reduceLT, Int.reduceLT, Int.reduceLE, Int.reduceEq, Int.reduceToNat, Nat.reduceMul]
      refine Cl_obj (ins := _) (hin := by simp [keysOf, stoOf]) (hk := by simp [keysOf]) (nd := by simp [keysOf]) (h := bD) ?_
      simp only [go_sem, ↓reduceIte, Nat.reduceEqDiff, Nat.reduceAdd, Nat.reduceLeDiff, reduceCtorEq, Nat.reduceLT, Int.reduceLT, Int.reduceLE, Int.reduceEq, Int.reduceToNat, Nat.reduceMul]
      refine Cl_obj (ins := _) (hin := by simp [keysOf, stoOf]) (hk := by simp [keysOf]) (nd := by simp [keysOf]) (h := bS) ?_
      simp only [go_sem, ↓reduceIte, Nat.reduceEqDiff, Nat.reduceAdd, Nat.reduceLeDiff, reduceCtorEq, Nat.reduceLT, Int.reduceLT, Int.reduceLE, Int.reduceEq, Int.reduceToNat, Nat.reduceMul]
      refine wends2 [] [108] (by first | exact Or.inl rfl | exact Or.inr rfl) ?_ (by simp [AV.ids, idsL]) (by simp [stoS]) (by simp [keysOf]) (by simp [stoOf, keysOf] <;> assumption) (by simp [keysOf]) (by simp [keysOf])
      simp only [go_sem, r_ring_Live, exists_eq_left', Option.some.injEq, ↓reduceIte, Nat.reduceEqDiff, Nat.reduceAdd, Nat.reduceLeDiff, reduceCtorEq, Nat.reduceLT, Int.reduceLT, Int.reduceLE, Int.reduceEq, Int.reduceToNat, Nat.reduceMul]
      simp [wkV, wkL, slTrees, AV.asOwn, rowPart, stoOf, AV.isNil, hsl, List.take_append_of_le_length, List.take_of_length_le]

end Go.Proofs.Ytmafaockdiodfaa
