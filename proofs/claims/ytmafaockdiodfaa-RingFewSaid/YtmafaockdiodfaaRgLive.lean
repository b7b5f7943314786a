/- Contracts of the library's deleting and comparing of slots. No statement of the seat is proved here. -/
import Derived.Test.YtmafaockdiodfaaRgSet
import Derived.Test.YtmafaockdiodfaaRgNew
import Derived.Test.YtmafaockdiodfaaRgSame
set_option linter.unusedSimpArgs false
set_option linter.unusedVariables false
namespace Go.Proofs.Ytmafaockdiodfaa
open Go Go.Sx

theorem f_cmp_isNaN_int (x : Int) : Meets Try.prog E0 n_cmp_isNaN_int [I x] [] (Bo false) [] := by
  refine m_cmp_isNaN_int (by simp) (shut0 rfl) (shut0 rfl) (by simp) (by simp [keysOf]) ?_
  have h : decide (x = x) = true := decide_eq_true rfl
  simp only [go_sem, s_cmp_isNaN_int, h, ↓reduceIte, Nat.reduceEqDiff, Nat.reduceAdd, Nat.reduceLeDiff, reduceCtorEq, Nat.reduceLT, Int.reduceLT, Int.reduceLE, Int.reduceEq, Int.reduceToNat, Nat.reduceMul]
  refine wends (by first | exact Or.inl rfl | exact Or.inr rfl) ?_ (by first | rfl | simp [AV.ids, idsL])
  simp only [go_sem, r_cmp_isNaN_int, ↓reduceIte, Nat.reduceEqDiff, Nat.reduceAdd, Nat.reduceLeDiff, reduceCtorEq, Nat.reduceLT, Int.reduceLT, Int.reduceLE, Int.reduceEq, Int.reduceToNat, Nat.reduceMul]

def cmpI (x y : Int) : Int := if x < y then -1 else if y < x then 1 else 0

theorem f_cmp_Compare_int (x y : Int) : Meets Try.prog E0 n_cmp_Compare_int [I x, I y] [] (I (cmpI x y)) [] := by
  refine m_cmp_Compare_int (by simp) (shut0 rfl) (shut0 rfl) (by simp) (by simp [keysOf]) ?_
  have b1 := f_cmp_isNaN_int x
  have b2 := f_cmp_isNaN_int y
  unfold cmpI
  cases h1 : decide (x < y)
  · cases h2 : decide (y < x)
    · rw [if_neg (of_decide_eq_false h1), if_neg (of_decide_eq_false h2)]
      simp only [go_sem, s_cmp_Compare_int, ↓reduceIte, Nat.reduceEqDiff, Nat.reduceAdd, Nat.reduceLeDiff, reduceCtorEq, Nat.reduceLT, Int.reduceLT, Int.reduceLE, Int.reduceEq, Int.reduceToNat, Nat.reduceMul]
      refine Cl_plain b1 ?_
      simp only [go_sem, ↓reduceIte, Nat.reduceEqDiff, Nat.reduceAdd, Nat.reduceLeDiff, reduceCtorEq, Nat.reduceLT, Int.reduceLT, Int.reduceLE, Int.reduceEq, Int.reduceToNat, Nat.reduceMul]
      refine Cl_plain b2 ?_
      simp only [go_sem, h1, h2, ↓reduceIte, Nat.reduceEqDiff, Nat.reduceAdd, Nat.reduceLeDiff, reduceCtorEq, Nat.reduceLT, Int.reduceLT, Int.reduceLE, Int.reduceEq, Int.reduceToNat, Nat.reduceMul]
      refine wends (by first | exact Or.inl rfl | exact Or.inr rfl) ?_ (by first | rfl | simp [AV.ids, idsL])
      simp only [go_sem, r_cmp_Compare_int, ↓reduceIte, Nat.reduceEqDiff, Nat.reduceAdd, Nat.reduceLeDiff, reduceCtorEq, Nat.reduceLT, Int.reduceLT, Int.reduceLE, Int.reduceEq, Int.reduceToNat, Nat.reduceMul]
    · rw [if_neg (of_decide_eq_false h1), if_pos (of_decide_eq_true h2)]
      simp only [go_sem, s_cmp_Compare_int, ↓reduceIte, Nat.reduceEqDiff, Nat.reduceAdd, Nat.reduceLeDiff, reduceCtorEq, Nat.reduceLT, Int.reduceLT, Int.reduceLE, Int.reduceEq, Int.reduceToNat, Nat.reduceMul]
      refine Cl_plain b1 ?_
      simp only [go_sem, ↓reduceIte, Nat.reduceEqDiff, Nat.reduceAdd, Nat.reduceLeDiff, reduceCtorEq, Nat.reduceLT, Int.reduceLT, Int.reduceLE, Int.reduceEq, Int.reduceToNat, Nat.reduceMul]
      refine Cl_plain b2 ?_
      simp only [go_sem, h1, h2, ↓reduceIte, Nat.reduceEqDiff, Nat.reduceAdd, Nat.reduceLeDiff, reduceCtorEq, Nat.reduceLT, Int.reduceLT, Int.reduceLE, Int.reduceEq, Int.reduceToNat, Nat.reduceMul]
      refine wends (by first | exact Or.inl rfl | exact Or.inr rfl) ?_ (by first | rfl | simp [AV.ids, idsL])
      simp only [go_sem, r_cmp_Compare_int, ↓reduceIte, Nat.reduceEqDiff, Nat.reduceAdd, Nat.reduceLeDiff, reduceCtorEq, Nat.reduceLT, Int.reduceLT, Int.reduceLE, Int.reduceEq, Int.reduceToNat, Nat.reduceMul]
  · rw [if_pos (of_decide_eq_true h1)]
    simp only [go_sem, s_cmp_Compare_int, ↓reduceIte, Nat.reduceEqDiff, Nat.reduceAdd, Nat.reduceLeDiff, reduceCtorEq, Nat.reduceLT, Int.reduceLT, Int.reduceLE, Int.reduceEq, Int.reduceToNat, Nat.reduceMul]
    refine Cl_plain b1 ?_
    simp only [go_sem, ↓reduceIte, Nat.reduceEqDiff, Nat.reduceAdd, Nat.reduceLeDiff, reduceCtorEq, Nat.reduceLT, Int.reduceLT, Int.reduceLE, Int.reduceEq, Int.reduceToNat, Nat.reduceMul]
    refine Cl_plain b2 ?_
    simp only [go_sem, h1, ↓reduceIte, Nat.reduceEqDiff, Nat.reduceAdd, Nat.reduceLeDiff, reduceCtorEq, Nat.reduceLT, Int.reduceLT, Int.reduceLE, Int.reduceEq, Int.reduceToNat, Nat.reduceMul]
    refine wends (by first | exact Or.inl rfl | exact Or.inr rfl) ?_ (by first | rfl | simp [AV.ids, idsL])
    simp only [go_sem, r_cmp_Compare_int, ↓reduceIte, Nat.reduceEqDiff, Nat.reduceAdd, Nat.reduceLeDiff, reduceCtorEq, Nat.reduceLT, Int.reduceLT, Int.reduceLE, Int.reduceEq, Int.reduceToNat, Nat.reduceMul]

theorem f_ring_Live_1 (s : Slot) : Meets Try.prog E0 n_ring_Live_1 [.ag [I s.1, I s.2]] [] (Bo (decide (s.1 = -1))) [] := by
  refine m_ring_Live_1 (by simp) (shut0 rfl) (shut0 rfl) (by simp) (by simp [keysOf]) ?_
  simp only [go_sem, s_ring_Live_1, ↓reduceIte, Nat.reduceEqDiff, Nat.reduceAdd, Nat.reduceLeDiff, reduceCtorEq, Nat.reduceLT, Int.reduceLT, Int.reduceLE, Int.reduceEq, Int.reduceToNat, Nat.reduceMul]
  refine wends (by first | exact Or.inl rfl | exact Or.inr rfl) ?_ (by first | rfl | simp [AV.ids, idsL])
  simp only [go_sem, r_ring_Live_1, ↓reduceIte, Nat.reduceEqDiff, Nat.reduceAdd, Nat.reduceLeDiff, reduceCtorEq, Nat.reduceLT, Int.reduceLT, Int.reduceLE, Int.reduceEq, Int.reduceToNat, Nat.reduceMul]

theorem f_ring_Live_2 (s t : Slot) : Meets Try.prog E0 n_ring_Live_2 [.ag [I s.1, I s.2], .ag [I t.1, I t.2]] [] (I (cmpI s.1 t.1)) [] := by
  refine m_ring_Live_2 (by simp) (shut0 rfl) (shut0 rfl) (by simp) (by simp [keysOf]) ?_
  simp only [go_sem, s_ring_Live_2, ↓reduceIte, Nat.reduceEqDiff, Nat.reduceAdd, Nat.reduceLeDiff, reduceCtorEq, Nat.reduceLT, Int.reduceLT, Int.reduceLE, Int.reduceEq, Int.reduceToNat, Nat.reduceMul]
  refine Cl_plain (f_cmp_Compare_int s.1 t.1) ?_
  simp only [go_sem, ↓reduceIte, Nat.reduceEqDiff, Nat.reduceAdd, Nat.reduceLeDiff, reduceCtorEq, Nat.reduceLT, Int.reduceLT, Int.reduceLE, Int.reduceEq, Int.reduceToNat, Nat.reduceMul]
  refine wends (by first | exact Or.inl rfl | exact Or.inr rfl) ?_ (by first | rfl | simp [AV.ids, idsL])
  simp only [go_sem, r_ring_Live_2, ↓reduceIte, Nat.reduceEqDiff, Nat.reduceAdd, Nat.reduceLeDiff, reduceCtorEq, Nat.reduceLT, Int.reduceLT, Int.reduceLE, Int.reduceEq, Int.reduceToNat, Nat.reduceMul]

def idxS (p : Slot → Bool) : List Slot → Nat → Int
  | [], _ => -1
  | s :: l, i => if p s then (i : Int) else idxS p l (i + 1)

theorem idxS_none {p : Slot → Bool} : ∀ {l : List Slot} (i : Nat), (∀ s ∈ l, p s = false) → idxS p l i = -1
  | [], _, _ => rfl
  | s :: l, i, h => by simp [idxS, h s (by simp), idxS_none (l := l) (i + 1) (fun x hx => h x (by simp [hx]))]

theorem idxS_some {p : Slot → Bool} {s : Slot} {post : List Slot} (hs : p s = true) : ∀ {pre : List Slot} (i : Nat), (∀ x ∈ pre, p x = false) → idxS p (pre ++ s :: post) i = ((i + pre.length : Nat) : Int)
  | [], i, _ => by simp [idxS, hs]
  | x :: pre, i, h => by
    simp only [List.cons_append, idxS, h x (by simp), Bool.false_eq_true, if_false]
    rw [idxS_some hs (i + 1) (fun y hy => h y (by simp [hy]))]
    simp only [List.length_cons]; omega

theorem split_first (p : Slot → Bool) : ∀ (l : List Slot), (∀ s ∈ l, p s = false) ∨ ∃ pre s post, l = pre ++ s :: post ∧ (∀ x ∈ pre, p x = false) ∧ p s = true
  | [] => Or.inl (by simp)
  | x :: l => by
    cases hx : p x
    · rcases split_first p l with h | ⟨pre, s, post, rfl, h1, h2⟩
      · refine Or.inl ?_
        intro s hs; rcases List.mem_cons.1 hs with rfl | hs
        · exact hx
        · exact h s hs
      · refine Or.inr ⟨x :: pre, s, post, rfl, ?_, h2⟩
        intro s hs; rcases List.mem_cons.1 hs with rfl | hs
        · exact hx
        · exact h1 s hs
    · exact Or.inr ⟨[], x, l, rfl, by simp, hx⟩

theorem f_IndexFunc_own (g : Nat) (p : Slot → Bool) (l : List Slot) (hn : l.length ≤ maxLen) (hg : ∀ s : Slot, Meets Try.prog E0 g [.ag [I s.1, I s.2]] [] (Bo (p s)) []) :
    Meets Try.prog E0 n_slices_IndexFunc_Sapi_Slot_api_Slot [.own 0 2 0 l.length true, .fn g [] []] [(0, .row 2 true (l.map slT))] (I (idxS p l 0)) [(0, .row 2 true (l.map slT))] := by
  have hn2 : l.length ≤ 9223372036854775807 := hn
  generalize hout : idxS p l 0 = out
  refine m_slices_IndexFunc_Sapi_Slot_api_Slot (by simp) (shut_of (by simp [idsL, AV.ids, keysOf]) (by simp [Ob.live, Ob.ids, keysOf, idsL, AV.ids])) (shut_of (by simp [idsL, AV.ids, keysOf]) (by simp [Ob.live, Ob.ids, keysOf, idsL, AV.ids])) (by simp [keysOf]) (by simp [keysOf]) ?_
  simp only [go_sem, s_slices_IndexFunc_Sapi_Slot_api_Slot, ↓reduceIte, Nat.reduceEqDiff, Nat.reduceAdd, Nat.reduceLeDiff, reduceCtorEq, Nat.reduceLT, Int.reduceLT, Int.reduceLE, Int.reduceEq, Int.reduceToNat, Nat.reduceMul]
  refine W_loop (fun i : Nat => l.length - i) (fun i => i ≤ l.length ∧ idxS p (l.drop i) i = out)
    (fun i => [(0, .own 0 2 0 l.length true), (1, .fn g [] []), (7, I l.length), (8, I i)])
    (fun i => [(0, .row 2 true (l.map slT))]) 0 ⟨Nat.zero_le _, by simpa using hout⟩ (subL [] [] (by simp [envS, go_sem, wkV, wkL, AV.ids, idsL, keysOf, ren, stoOf, slTrees, AV.asOwn, rowPart, AV.isNil] <;> assumption) (by simp [stoS, go_sem, wkV, wkL, wkO, AV.ids, Ob.ids, idsL, keysOf, ren, AV.one, stoOf, slTrees, AV.asOwn, rowPart, AV.isNil] <;> assumption) (by simp [keysOf, ren]) (by simp [stoOf, keysOf, ren]) (by simp [keysOf, ren]) (by simp [keysOf, ren])) ?_
  rintro i ⟨hi, hr⟩
  simp only [go_sem, ↓reduceIte, Nat.reduceEqDiff, Nat.reduceAdd, Nat.reduceLeDiff, reduceCtorEq, Nat.reduceLT, Int.reduceLT, Int.reduceLE, Int.reduceEq, Int.reduceToNat, Nat.reduceMul]
  refine W_split rfl (fun h => ?_) (fun h => ?_)
  · simp at h
    obtain ⟨s, hs⟩ := get_of_lt h
    have ei : IntKind.i64.wrap ((i : Int) + 1) = ((i + 1 : Nat) : Int) := by rw [wrap_i64_of (by omega) (by omega)]; omega
    have ib : (i : Int) < (l.length : Int) := by omega
    rw [drop_get hs] at hr
    simp only [idxS] at hr
    simp only [go_sem, hs, slT, ib, ↓reduceIte, Nat.reduceEqDiff, Nat.reduceAdd, Nat.reduceLeDiff, reduceCtorEq, Nat.reduceLT, Int.reduceLT, Int.reduceLE, Int.reduceEq, Int.reduceToNat, Nat.reduceMul]
    refine Cl_plain (hg s) ?_
    cases hp : p s
    · rw [hp, if_neg (by decide)] at hr
      simp only [go_sem, ei, ↓reduceIte, Nat.reduceEqDiff, Nat.reduceAdd, Nat.reduceLeDiff, reduceCtorEq, Nat.reduceLT, Int.reduceLT, Int.reduceLE, Int.reduceEq, Int.reduceToNat, Nat.reduceMul]
      exact rd_of (i + 1) (by first | omega | (simp only; omega)) ⟨by first | omega | (simp only; omega), hr⟩ (subL [] [] (by simp [envS, go_sem, wkV, wkL, AV.ids, idsL, keysOf, ren, stoOf, slTrees, AV.asOwn, rowPart, AV.isNil] <;> assumption) (by simp [stoS, go_sem, wkV, wkL, wkO, AV.ids, Ob.ids, idsL, keysOf, ren, AV.one, stoOf, slTrees, AV.asOwn, rowPart, AV.isNil] <;> assumption) (by simp [keysOf, ren]) (by simp [stoOf, keysOf, ren]) (by simp [keysOf, ren]) (by simp [keysOf, ren]))
    · rw [hp, if_pos rfl] at hr
      simp only [go_sem, ↓reduceIte, Nat.reduceEqDiff, Nat.reduceAdd, Nat.reduceLeDiff, reduceCtorEq, Nat.reduceLT, Int.reduceLT, Int.reduceLE, Int.reduceEq, Int.reduceToNat, Nat.reduceMul]
      refine wends2 [] [] (by first | exact Or.inl rfl | exact Or.inr rfl) ?_ (by simp [AV.ids, idsL, keysOf]) (by simp [stoS, wkO, ls_cons, ls_nil, stoOf, ren, keysOf, Ob.ids, wkV, wkL, AV.one, idsL, AV.ids] <;> assumption) (by simp [keysOf, ren]) (by simp [stoOf, keysOf, ren]) (by simp [keysOf, ren]) (by simp [keysOf, ren])
      simp only [go_sem, r_slices_IndexFunc_Sapi_Slot_api_Slot, exists_eq_left', Option.some.injEq, ↓reduceIte, Nat.reduceEqDiff, Nat.reduceAdd, Nat.reduceLeDiff, reduceCtorEq, Nat.reduceLT, Int.reduceLT, Int.reduceLE, Int.reduceEq, Int.reduceToNat, Nat.reduceMul]
      simp [wkV, wkL, slTrees, AV.asOwn, rowPart, stoOf, AV.isNil, hr]
  · have e : i = l.length := by simp at h; omega
    subst e
    rw [List.drop_length] at hr
    simp only [idxS] at hr
    simp only [go_sem, ↓reduceIte, Nat.reduceEqDiff, Nat.reduceAdd, Nat.reduceLeDiff, reduceCtorEq, Nat.reduceLT, Int.reduceLT, Int.reduceLE, Int.reduceEq, Int.reduceToNat, Nat.reduceMul]
    refine wends2 [] [] (by first | exact Or.inl rfl | exact Or.inr rfl) ?_ (by simp [AV.ids, idsL, keysOf]) (by simp [stoS, wkO, ls_cons, ls_nil, stoOf, ren, keysOf, Ob.ids, wkV, wkL, AV.one, idsL, AV.ids] <;> assumption) (by simp [keysOf, ren]) (by simp [stoOf, keysOf, ren]) (by simp [keysOf, ren]) (by simp [keysOf, ren])
    simp only [go_sem, r_slices_IndexFunc_Sapi_Slot_api_Slot, exists_eq_left', Option.some.injEq, ↓reduceIte, Nat.reduceEqDiff, Nat.reduceAdd, Nat.reduceLeDiff, reduceCtorEq, Nat.reduceLT, Int.reduceLT, Int.reduceLE, Int.reduceEq, Int.reduceToNat, Nat.reduceMul]
    simp [wkV, wkL, slTrees, AV.asOwn, rowPart, stoOf, AV.isNil, hr]

def zeroS : List T := [.v (.int .i64 0), .v (.int .i64 0)]
def leftS (p : Slot → Bool) (l : List Slot) : List Slot := l.filter fun s => !p s

theorem left_len (p : Slot → Bool) (l : List Slot) : (leftS p l).length ≤ l.length := List.length_filter_le _ _

theorem left_succ {p : Slot → Bool} {l : List Slot} {j : Nat} {s : Slot} (h : l[j]? = some s) : leftS p (l.take (j + 1)) = leftS p (l.take j) ++ (if p s then [] else [s]) := by
  unfold leftS
  rw [List.take_add_one, h, List.filter_append]
  cases hp : p s <;> simp [hp]

theorem set_at {α : Type} (a : List α) (x : α) (b : List α) (y : α) (n : Nat) (h : a.length = n) : (a ++ x :: b).set n y = a ++ y :: b := by
  subst h
  rw [List.set_append_right _ _ (Nat.le_refl _), Nat.sub_self]
  rfl

theorem get_far {a l : List Slot} {j : Nat} {s : Slot} (h : l[j]? = some s) (ha : a.length = j) : (a ++ l.drop j)[j]? = some s := by
  rw [List.getElem?_append_right (by omega), ha, Nat.sub_self, drop_get h]
  rfl

theorem f_DeleteFunc (g : Nat) (p : Slot → Bool) (l : List Slot) (hn : l.length ≤ 100000) (hg : ∀ s : Slot, Meets Try.prog E0 g [.ag [I s.1, I s.2]] [] (Bo (p s)) []) :
    Meets Try.prog E0 n_slices_DeleteFunc_Sapi_Slot_api_Slot [.own 0 2 0 l.length true, .fn g [] []] [(0, .row 2 true (l.map slT))] (.own 0 2 0 (leftS p l).length true) [(0, .row 2 true ((leftS p l).map slT ++ List.replicate (l.length - (leftS p l).length) zeroS))] := by
  have hmx : maxLen = 9223372036854775807 := rfl
  have bI := f_IndexFunc_own g p l (by omega) hg
  refine m_slices_DeleteFunc_Sapi_Slot_api_Slot (by simp) (shut_of (by simp [idsL, AV.ids, keysOf]) (by simp [Ob.live, Ob.ids, keysOf, idsL, AV.ids])) (shut_of (by simp [idsL, AV.ids, keysOf]) (by simp [Ob.live, Ob.ids, keysOf, idsL, AV.ids])) (by simp [keysOf]) (by simp [keysOf]) ?_
  rcases split_first p l with hno | ⟨pre, s0, post, hl, hpre, hs0⟩
  · rw [idxS_none 0 hno] at bI
    have hle : leftS p l = l := List.filter_eq_self.2 (fun s hs => by simp [hno s hs])
    rw [hle, Nat.sub_self]
    simp only [go_sem, s_slices_DeleteFunc_Sapi_Slot_api_Slot, ↓reduceIte, Nat.reduceEqDiff, Nat.reduceAdd, Nat.reduceLeDiff, reduceCtorEq, Nat.reduceLT, Int.reduceLT, Int.reduceLE, Int.reduceEq, Int.reduceToNat, Nat.reduceMul]
    refine Cl_obj (ins := _) (hin := by simp [keysOf, stoOf]) (hk := by simp [keysOf]) (nd := by simp [keysOf]) (h := bI) ?_
    have d1 : decide ((-1 : Int) = -1) = true := rfl
    simp only [go_sem, d1, ↓reduceIte, Nat.reduceEqDiff, Nat.reduceAdd, Nat.reduceLeDiff, reduceCtorEq, Nat.reduceLT, Int.reduceLT, Int.reduceLE, Int.reduceEq, Int.reduceToNat, Nat.reduceMul]
    refine wends2 [] [] (by first | exact Or.inl rfl | exact Or.inr rfl) ?_ (by simp [AV.ids, idsL, keysOf]) (by simp [stoS, wkO, ls_cons, ls_nil, stoOf, ren, keysOf, Ob.ids, wkV, wkL, AV.one, idsL, AV.ids] <;> assumption) (by simp [keysOf, ren]) (by simp [stoOf, keysOf, ren]) (by simp [keysOf, ren]) (by simp [keysOf, ren])
    simp only [go_sem, r_slices_DeleteFunc_Sapi_Slot_api_Slot, exists_eq_left', Option.some.injEq, ↓reduceIte, Nat.reduceEqDiff, Nat.reduceAdd, Nat.reduceLeDiff, reduceCtorEq, Nat.reduceLT, Int.reduceLT, Int.reduceLE, Int.reduceEq, Int.reduceToNat, Nat.reduceMul]
    simp [wkV, wkL, slTrees, AV.asOwn, rowPart, stoOf, AV.isNil, ren]
  · have hidx : idxS p l 0 = (pre.length : Int) := by rw [hl, idxS_some hs0 0 hpre, Nat.zero_add]
    rw [hidx] at bI
    have hll : pre.length + (post.length + 1) = l.length := by rw [hl]; simp
    have d1 : decide ((pre.length : Int) = -1) = false := decide_eq_false (by omega)
    have e1 : IntKind.i64.wrap ((pre.length : Int) + 1) = ((pre.length + 1 : Nat) : Int) := by rw [wrap_i64_of (by omega) (by omega)]; omega
    have htk : l.take (pre.length + 1) = pre ++ [s0] := by
      rw [hl, List.take_append, List.take_of_length_le (by omega), show pre.length + 1 - pre.length = 1 by omega]; rfl
    have hlp : leftS p (l.take (pre.length + 1)) = pre := by
      rw [htk]; unfold leftS
      rw [List.filter_append, List.filter_eq_self.2 (fun s hs => by simp [hpre s hs])]
      simp [hs0]
    have hdr : l.drop (pre.length + 1) = post := by rw [hl]; simp
    simp only [go_sem, s_slices_DeleteFunc_Sapi_Slot_api_Slot, ↓reduceIte, Nat.reduceEqDiff, Nat.reduceAdd, Nat.reduceLeDiff, reduceCtorEq, Nat.reduceLT, Int.reduceLT, Int.reduceLE, Int.reduceEq, Int.reduceToNat, Nat.reduceMul]
    refine Cl_obj (ins := _) (hin := by simp [keysOf, stoOf]) (hk := by simp [keysOf]) (nd := by simp [keysOf]) (h := bI) ?_
    simp only [go_sem, d1, e1, ↓reduceIte, Nat.reduceEqDiff, Nat.reduceAdd, Nat.reduceLeDiff, reduceCtorEq, Nat.reduceLT, Int.reduceLT, Int.reduceLE, Int.reduceEq, Int.reduceToNat, Nat.reduceMul]
    refine W_loop (fun x : Nat × List Slot => l.length - x.1) (fun x => x.1 ≤ l.length ∧ x.2 ≠ [] ∧ (leftS p (l.take x.1) ++ x.2).length = x.1)
      (fun x => [(0, .own 0 2 0 l.length true), (1, .fn g [] []), (5, I (leftS p (l.take x.1)).length), (6, I x.1)])
      (fun x => [(0, .row 2 true (((leftS p (l.take x.1) ++ x.2) ++ l.drop x.1).map slT))])
      (pre.length + 1, [s0]) ⟨by omega, by simp, by rw [hlp]; simp⟩ ?_ ?_
    · simp only [hlp, hdr]
      rw [show (pre ++ [s0]) ++ post = l by rw [hl]; simp]
      exact (subL [] [] (by simp [envS, go_sem, wkV, wkL, AV.ids, idsL, keysOf, ren, stoOf, slTrees, AV.asOwn, rowPart, AV.isNil] <;> assumption) (by simp [stoS, go_sem, wkV, wkL, wkO, AV.ids, Ob.ids, idsL, keysOf, ren, AV.one, stoOf, slTrees, AV.asOwn, rowPart, AV.isNil] <;> assumption) (by simp [keysOf, ren]) (by simp [stoOf, keysOf, ren]) (by simp [keysOf, ren]) (by simp [keysOf, ren]))
    rintro ⟨j, st⟩ ⟨hj, hst, hjl⟩
    simp only at hj hst hjl
    simp only [go_sem, ↓reduceIte, Nat.reduceEqDiff, Nat.reduceAdd, Nat.reduceLeDiff, reduceCtorEq, Nat.reduceLT, Int.reduceLT, Int.reduceLE, Int.reduceEq, Int.reduceToNat, Nat.reduceMul]
    refine W_split rfl (fun h => ?_) (fun h => ?_)
    · simp at h
      obtain ⟨s, hs⟩ := get_of_lt h
      have ei : IntKind.i64.wrap ((j : Int) + 1) = ((j + 1 : Nat) : Int) := by rw [wrap_i64_of (by omega) (by omega)]; omega
      have ib : (j : Int) < (l.length : Int) := by omega
      have hget := get_far hs hjl
      have hsucc := left_succ (p := p) hs
      have hdj := drop_get hs
      generalize hK : leftS p (l.take j) = K at *
      simp only [go_sem, hget, slT, ib, ↓reduceIte, Nat.reduceEqDiff, Nat.reduceAdd, Nat.reduceLeDiff, reduceCtorEq, Nat.reduceLT, Int.reduceLT, Int.reduceLE, Int.reduceEq, Int.reduceToNat, Nat.reduceMul]
      refine Cl_plain (hg s) ?_
      cases hp : p s
      · rw [hp, if_neg (by decide)] at hsucc
        obtain ⟨x, st', rfl⟩ : ∃ x st', st = x :: st' := by cases st with | nil => exact absurd rfl hst | cons x st' => exact ⟨x, st', rfl⟩
        have ib2 : (K.length : Int) < (l.length : Int) := by simp at hjl; omega
        have e2 : IntKind.i64.wrap ((K.length : Int) + 1) = ((K.length + 1 : Nat) : Int) := by rw [wrap_i64_of (by simp at hjl; omega) (by simp at hjl; omega)]; omega
        have hgx : ((K ++ x :: st') ++ l.drop j)[K.length]? = some x := by
          rw [List.append_assoc, List.getElem?_append_right (Nat.le_refl _), Nat.sub_self]; rfl
        have hset : (((K ++ x :: st') ++ l.drop j).map slT).set K.length [.v (.int .i64 s.1), .v (.int .i64 s.2)] = (((K ++ [s]) ++ (st' ++ [s])) ++ l.drop (j + 1)).map slT := by
          rw [show [T.v (.int .i64 s.1), T.v (.int .i64 s.2)] = slT s from rfl, ← List.map_set, List.append_assoc, List.cons_append, set_at K x (st' ++ l.drop j) s K.length rfl, hdj]
          simp
        simp only [go_sem, hgx, slT, ib2, hset, e2, ei, ↓reduceIte, Nat.reduceEqDiff, Nat.reduceAdd, Nat.reduceLeDiff, reduceCtorEq, Nat.reduceLT, Int.reduceLT, Int.reduceLE, Int.reduceEq, Int.reduceToNat, Nat.reduceMul]
        refine rd_of (j + 1, st' ++ [s]) (by simp only; omega) ⟨by simp only; omega, by simp, by simp only [hsucc]; simp at hjl ⊢; omega⟩ ?_
        simp only [hsucc, List.length_append, List.length_singleton]
        exact (subL [] [] (by simp [envS, go_sem, wkV, wkL, AV.ids, idsL, keysOf, ren, stoOf, slTrees, AV.asOwn, rowPart, AV.isNil] <;> assumption) (by simp [stoS, go_sem, wkV, wkL, wkO, AV.ids, Ob.ids, idsL, keysOf, ren, AV.one, stoOf, slTrees, AV.asOwn, rowPart, AV.isNil] <;> assumption) (by simp [keysOf, ren]) (by simp [stoOf, keysOf, ren]) (by simp [keysOf, ren]) (by simp [keysOf, ren]))
      · rw [hp, if_pos rfl, List.append_nil] at hsucc
        simp only [go_sem, ei, ↓reduceIte, Nat.reduceEqDiff, Nat.reduceAdd, Nat.reduceLeDiff, reduceCtorEq, Nat.reduceLT, Int.reduceLT, Int.reduceLE, Int.reduceEq, Int.reduceToNat, Nat.reduceMul]
        refine rd_of (j + 1, st ++ [s]) (by simp only; omega) ⟨by simp only; omega, by simp, by simp only [hsucc]; simp at hjl ⊢; omega⟩ ?_
        simp only [hsucc]
        rw [show (K ++ st) ++ l.drop j = (K ++ (st ++ [s])) ++ l.drop (j + 1) by rw [hdj]; simp]
        exact (subL [] [] (by simp [envS, go_sem, wkV, wkL, AV.ids, idsL, keysOf, ren, stoOf, slTrees, AV.asOwn, rowPart, AV.isNil] <;> assumption) (by simp [stoS, go_sem, wkV, wkL, wkO, AV.ids, Ob.ids, idsL, keysOf, ren, AV.one, stoOf, slTrees, AV.asOwn, rowPart, AV.isNil] <;> assumption) (by simp [keysOf, ren]) (by simp [stoOf, keysOf, ren]) (by simp [keysOf, ren]) (by simp [keysOf, ren]))
    · have e : j = l.length := by simp at h; omega
      subst e
      rw [List.take_length] at hjl
      simp only [List.take_length, List.drop_length, List.append_nil]
      have hKl : (leftS p l).length ≤ l.length := by rw [List.length_append] at hjl; omega
      generalize hK : leftS p l = K at *
      have hk1 : (0 : Int) ≤ (K.length : Int) := by omega
      have hk2 : (K.length : Int) ≤ (l.length : Int) := by omega
      have eN : ((l.length : Int) - (K.length : Int)).toNat = l.length - K.length := by omega
      have hlen : ((K ++ st).map slT).length = l.length := by simpa using hjl
      have hle2 : K.length + (l.length - K.length) ≤ l.length := by omega
      have hfin : List.take K.length ((K ++ st).map slT) ++ List.replicate (l.length - K.length) [T.v (.int .i64 0), T.v (.int .i64 0)] ++ List.drop (K.length + (l.length - K.length)) ((K ++ st).map slT) = K.map slT ++ List.replicate (l.length - K.length) zeroS := by
        rw [List.drop_eq_nil_of_le (by rw [hlen]; omega), List.map_append, List.take_append_of_le_length (by simp), List.take_of_length_le (by simp), List.append_nil]
        rfl
      simp only [go_sem, hk1, hk2, eN, hlen, hle2, hfin, ↓reduceIte, Nat.reduceEqDiff, Nat.reduceAdd, Nat.reduceLeDiff, reduceCtorEq, Nat.reduceLT, Int.reduceLT, Int.reduceLE, Int.reduceEq, Int.reduceToNat, Nat.reduceMul]
      refine wends2 [] [] (by first | exact Or.inl rfl | exact Or.inr rfl) ?_ (by simp [AV.ids, idsL, keysOf]) (by simp [stoS, wkO, ls_cons, ls_nil, stoOf, ren, keysOf, Ob.ids, wkV, wkL, AV.one, idsL, AV.ids] <;> assumption) (by simp [keysOf, ren]) (by simp [stoOf, keysOf, ren]) (by simp [keysOf, ren]) (by simp [keysOf, ren])
      simp only [go_sem, r_slices_DeleteFunc_Sapi_Slot_api_Slot, exists_eq_left', Option.some.injEq, ↓reduceIte, Nat.reduceEqDiff, Nat.reduceAdd, Nat.reduceLeDiff, reduceCtorEq, Nat.reduceLT, Int.reduceLT, Int.reduceLE, Int.reduceEq, Int.reduceToNat, Nat.reduceMul]
      simp [wkV, wkL, slTrees, AV.asOwn, rowPart, stoOf, AV.isNil, ren]

end Go.Proofs.Ytmafaockdiodfaa
