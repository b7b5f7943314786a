/- Texts of mine, some in one. No statement of the seat is proved here. -/
import Derived.Test.YtmjlldlaigoflaaGreatRgMath
import Derived.Test.YtmjlldlaigoflaaGreatRgSet
import Derived.Test.YtmjlldlaigoflaaGreatRgNew
import Derived.Test.YtmjlldlaigoflaaGreatRgSame
import Derived.Test.YtmjlldlaigoflaaGreatShelf
import Derived.Test.YtmjlldlaigoflaaGreatWdLen
import Derived.Test.YtmjlldlaigoflaaGreatSxSort
set_option linter.unusedSimpArgs false
set_option linter.unusedVariables false
namespace Go.Proofs.YtmjlldlaigoflaaGreat
open Go Go.Sx

/-- A slot comes to its place, behind those that aren't later. -/
def insS (s : Slot) : List Slot → List Slot
  | [] => [s]
  | x :: l => if s.1 < x.1 then s :: x :: l else x :: insS s l
def sortS (l : List Slot) : List Slot := l.foldl (fun acc s => insS s acc) []
def liveM (w : Int) (l : List Slot) : List Slot := if ringB w l then sortS (l.filter fun s => !decide (s.1 = -1)) else []
def Asc (l : List Slot) : Prop := l.Pairwise fun a b => a.1 < b.1

theorem ins_perm (s : Slot) : ∀ l : List Slot, (insS s l).Perm (s :: l)
  | [] => List.Perm.refl _
  | x :: l => by
    simp only [insS]
    split
    · exact List.Perm.refl _
    · exact ((ins_perm s l).cons x).trans (List.Perm.swap s x l)

theorem ins_asc {s : Slot} : ∀ {l : List Slot}, Asc l → (∀ x ∈ l, x.1 ≠ s.1) → Asc (insS s l)
  | [], _, _ => by simp [insS, Asc]
  | x :: l, h, hn => by
    simp only [insS]
    unfold Asc at h ⊢
    rw [List.pairwise_cons] at h
    have hx := hn x (by simp)
    split
    · rename_i hlt
      refine List.pairwise_cons.2 ⟨?_, List.pairwise_cons.2 h⟩
      intro y hy
      rcases List.mem_cons.1 hy with rfl | hy
      · exact hlt
      · have := h.1 y hy; omega
    · rename_i hlt
      refine List.pairwise_cons.2 ⟨?_, ins_asc h.2 (fun y hy => hn y (by simp [hy]))⟩
      intro y hy
      rcases List.mem_cons.1 ((ins_perm s l).mem_iff.1 hy) with rfl | hy
      · omega
      · exact h.1 y hy

theorem fold_perm : ∀ (l acc : List Slot), (l.foldl (fun acc s => insS s acc) acc).Perm (acc ++ l)
  | [], acc => by simp
  | s :: l, acc => by
    simp only [List.foldl_cons]
    refine (fold_perm l (insS s acc)).trans ?_
    refine ((ins_perm s acc).append_right l).trans ?_
    simpa using (List.perm_middle (a := s) (l₁ := acc) (l₂ := l)).symm

theorem sort_perm (l : List Slot) : (sortS l).Perm l := fold_perm l []

theorem fold_asc : ∀ (l acc : List Slot), Asc acc → (acc ++ l).Pairwise (fun a b => a.1 ≠ b.1) → Asc (l.foldl (fun acc s => insS s acc) acc)
  | [], acc, h, _ => h
  | s :: l, acc, h, hn => by
    simp only [List.foldl_cons]
    rw [List.pairwise_append] at hn
    obtain ⟨h1, h2, h3⟩ := hn
    rw [List.pairwise_cons] at h2
    refine fold_asc l _ (ins_asc h (fun x hx => h3 x hx s (by simp))) ?_
    have hp : (insS s acc ++ l).Perm (s :: acc ++ l) := (ins_perm s acc).append_right l
    refine (List.Perm.pairwise_iff (fun h => Ne.symm h) hp).2 ?_
    rw [List.cons_append, List.pairwise_cons, List.pairwise_append]
    refine ⟨?_, h1, h2.2, fun a ha b hb => h3 a ha b (by simp [hb])⟩
    intro x hx
    rcases List.mem_append.1 hx with hx | hx
    · exact (h3 x hx s (by simp)).symm
    · exact h2.1 x hx

theorem sort_asc {l : List Slot} (h : l.Pairwise fun a b => a.1 ≠ b.1) : Asc (sortS l) := fold_asc l [] (by simp [Asc]) (by simpa using h)

/-- There is one order alone. -/
theorem asc_uniq : ∀ {a b : List Slot}, Asc a → Asc b → a.Perm b → a = b
  | [], b, _, _, hp => by rw [hp.nil_eq]
  | x :: a, b, ha, hb, hp => by
    cases b with
    | nil => exact absurd hp.symm.nil_eq (by simp)
    | cons y b =>
      unfold Asc at ha hb
      rw [List.pairwise_cons] at ha hb
      have hxy : x = y := by
        have h1 : x ∈ y :: b := hp.mem_iff.1 (by simp)
        have h2 : y ∈ x :: a := hp.mem_iff.2 (by simp)
        rcases List.mem_cons.1 h1 with h1 | h1
        · exact h1
        · rcases List.mem_cons.1 h2 with h2 | h2
          · exact h2.symm
          · have := hb.1 x h1; have := ha.1 y h2; omega
      subst hxy
      rw [asc_uniq ha.2 hb.2 (List.Perm.cons_inv hp)]

/-- Live slots of a ring have times of their own. -/
theorem live_ne {w : Int} {l : List Slot} (h : ringB w l = true) : (l.filter fun s => !decide (s.1 = -1)).Pairwise fun a b => a.1 ≠ b.1 := by
  simp only [ringB, Bool.and_eq_true] at h
  have hs := h.2
  have key : ∀ (k : List Slot) (i : Int), slotsB w l.length i k = true → (k.filter fun s => !decide (s.1 = -1)).Pairwise (fun a b => a.1 ≠ b.1) ∧ ∀ s ∈ k.filter (fun s => !decide (s.1 = -1)), i ≤ s.1 / w % (l.length : Int) := by
    intro k
    induction k with
    | nil => intro i _; simp
    | cons s k ih =>
      intro i hk
      simp only [slotsB, Bool.and_eq_true] at hk
      obtain ⟨h1, h2⟩ := ih (i + 1) hk.2
      by_cases hs1 : s.1 = -1
      · rw [List.filter_cons_of_neg (by simp [hs1])]
        exact ⟨h1, fun x hx => by have := h2 x hx; omega⟩
      · rw [List.filter_cons_of_pos (by simp [hs1])]
        have hp : s.1 / w % (l.length : Int) = i := by
          have := hk.1
          simp only [slotB, Bool.or_eq_true, Bool.and_eq_true, beq_iff_eq] at this
          rcases this with this | this
          · exact absurd this.1 hs1
          · exact this.2
        refine ⟨List.pairwise_cons.2 ⟨?_, h1⟩, ?_⟩
        · intro x hx e
          have := h2 x hx
          rw [← e, hp] at this; omega
        · intro x hx
          rcases List.mem_cons.1 hx with rfl | hx
          · omega
          · have := h2 x hx; omega
  exact (key l 0 hs).1

theorem live_len (w : Int) (l : List Slot) : (liveM w l).length ≤ l.length := by
  unfold liveM
  split
  · rw [(sort_perm _).length_eq]; exact List.length_filter_le _ _
  · simp

theorem sort_take {l : List Slot} {i : Nat} {s : Slot} (h : l[i]? = some s) : sortS (l.take (i + 1)) = insS s (sortS (l.take i)) := by
  unfold sortS
  rw [List.take_add_one, h, List.foldl_append]; rfl

theorem f_cmp_isNaN_int (x : Int) : Meets Tryz.prog E0 n_cmp_isNaN_int [I x] [] (Bo false) [] := by
  refine m_cmp_isNaN_int (by simp) (shut0 rfl) (shut0 rfl) (by simp) (by simp [keysOf]) ?_
  have h : decide (x = x) = true := decide_eq_true rfl
  simp only [go_sem, s_cmp_isNaN_int, h, ↓reduceIte, Nat.reduceEqDiff, Nat.reduceAdd, Nat.reduceLeDiff, reduceCtorEq, Nat.reduceLT, Int.reduceLT, Int.reduceLE, Int.reduceEq, Int.reduceToNat, Nat.reduceMul]
  refine wends (by first | exact Or.inl rfl | exact Or.inr rfl) ?_ (by first | rfl | simp [AV.ids, idsL])
  simp only [go_sem, r_cmp_isNaN_int, ↓reduceIte, Nat.reduceEqDiff, Nat.reduceAdd, Nat.reduceLeDiff, reduceCtorEq, Nat.reduceLT, Int.reduceLT, Int.reduceLE, Int.reduceEq, Int.reduceToNat, Nat.reduceMul]

def cmpI (x y : Int) : Int := if x < y then -1 else if y < x then 1 else 0

theorem f_cmp_Compare_int (x y : Int) : Meets Tryz.prog E0 n_cmp_Compare_int [I x, I y] [] (I (cmpI x y)) [] := by
  refine m_cmp_Compare_int (by simp) (shut0 rfl) (shut0 rfl) (by simp) (by simp [keysOf]) ?_
  have b1 := f_cmp_isNaN_int x
  have b2 := f_cmp_isNaN_int y
  unfold cmpI
  cases h1 : decide (x < y)
  · cases h2 : decide (y < x)
    · rw [if_neg (of_decide_eq_false h1), if_neg (of_decide_eq_false h2)]
      simp only [go_sem, s_cmp_Compare_int, ↓reduceIte, Nat.reduceEqDiff, Nat.reduceAdd, Nat.reduceLeDiff, reduceCtorEq, Nat.reduceLT, Int.reduceLT, Int.reduceLE, Int.reduceEq, Int.reduceToNat, Nat.reduceMul]
      refine Cl_plain b1 ?_
      simp only [go_sem, ↓reduceIte, Nat.reduceEqDiff, Nat.reduceAdd, Nat.reduceLeDiff, reduceCtorEq, Nat.reduceLT, Int.reduceLT, Int.reduceLE, Int.reduceEq, Int.reduceToNat, Nat.reduceMul]
      refine Cl_plain b2 ?_
      simp only [go_sem, h1, h2, ↓reduceIte, Nat.reduceEqDiff, Nat.reduceAdd, Nat.reduceLeDiff, reduceCtorEq, Nat.reduceLT, Int.reduceLT, Int.reduceLE, Int.reduceEq, Int.reduceToNat, Nat.reduceMul]
      refine wends (by first | exact Or.inl rfl | exact Or.inr rfl) ?_ (by first | rfl | simp [AV.ids, idsL])
      simp only [go_sem, r_cmp_Compare_int, ↓reduceIte, Nat.reduceEqDiff, Nat.reduceAdd, Nat.reduceLeDiff, reduceCtorEq, Nat.reduceLT, Int.reduceLT, Int.reduceLE, Int.reduceEq, Int.reduceToNat, Nat.reduceMul]
    · rw [if_neg (of_decide_eq_false h1), if_pos (of_decide_eq_true h2)]
      simp only [go_sem, s_cmp_Compare_int, ↓reduceIte, Nat.reduceEqDiff, Nat.reduceAdd, Nat.reduceLeDiff, reduceCtorEq, Nat.reduceLT, Int.reduceLT, Int.reduceLE, Int.reduceEq, Int.reduceToNat, Nat.reduceMul]
      refine Cl_plain b1 ?_
      simp only [go_sem, ↓reduceIte, Nat.reduceEqDiff, Nat.reduceAdd, Nat.reduceLeDiff, reduceCtorEq, Nat.reduceLT, Int.reduceLT, Int.reduceLE, Int.reduceEq, Int.reduceToNat, Nat.reduceMul]
      refine Cl_plain b2 ?_
      simp only [go_sem, h1, h2, ↓reduceIte, Nat.reduceEqDiff, Nat.reduceAdd, Nat.reduceLeDiff, reduceCtorEq, Nat.reduceLT, Int.reduceLT, Int.reduceLE, Int.reduceEq, Int.reduceToNat, Nat.reduceMul]
      refine wends (by first | exact Or.inl rfl | exact Or.inr rfl) ?_ (by first | rfl | simp [AV.ids, idsL])
      simp only [go_sem, r_cmp_Compare_int, ↓reduceIte, Nat.reduceEqDiff, Nat.reduceAdd, Nat.reduceLeDiff, reduceCtorEq, Nat.reduceLT, Int.reduceLT, Int.reduceLE, Int.reduceEq, Int.reduceToNat, Nat.reduceMul]
  · rw [if_pos (of_decide_eq_true h1)]
    simp only [go_sem, s_cmp_Compare_int, ↓reduceIte, Nat.reduceEqDiff, Nat.reduceAdd, Nat.reduceLeDiff, reduceCtorEq, Nat.reduceLT, Int.reduceLT, Int.reduceLE, Int.reduceEq, Int.reduceToNat, Nat.reduceMul]
    refine Cl_plain b1 ?_
    simp only [go_sem, ↓reduceIte, Nat.reduceEqDiff, Nat.reduceAdd, Nat.reduceLeDiff, reduceCtorEq, Nat.reduceLT, Int.reduceLT, Int.reduceLE, Int.reduceEq, Int.reduceToNat, Nat.reduceMul]
    refine Cl_plain b2 ?_
    simp only [go_sem, h1, ↓reduceIte, Nat.reduceEqDiff, Nat.reduceAdd, Nat.reduceLeDiff, reduceCtorEq, Nat.reduceLT, Int.reduceLT, Int.reduceLE, Int.reduceEq, Int.reduceToNat, Nat.reduceMul]
    refine wends (by first | exact Or.inl rfl | exact Or.inr rfl) ?_ (by first | rfl | simp [AV.ids, idsL])
    simp only [go_sem, r_cmp_Compare_int, ↓reduceIte, Nat.reduceEqDiff, Nat.reduceAdd, Nat.reduceLeDiff, reduceCtorEq, Nat.reduceLT, Int.reduceLT, Int.reduceLE, Int.reduceEq, Int.reduceToNat, Nat.reduceMul]

theorem f_ring_Live_1 (s : Slot) : Meets Tryz.prog E0 n_ring_Live_1 [.ag [I s.1, I s.2]] [] (Bo (decide (s.1 = -1))) [] := by
  refine m_ring_Live_1 (by simp) (shut0 rfl) (shut0 rfl) (by simp) (by simp [keysOf]) ?_
  simp only [go_sem, s_ring_Live_1, ↓reduceIte, Nat.reduceEqDiff, Nat.reduceAdd, Nat.reduceLeDiff, reduceCtorEq, Nat.reduceLT, Int.reduceLT, Int.reduceLE, Int.reduceEq, Int.reduceToNat, Nat.reduceMul]
  refine wends (by first | exact Or.inl rfl | exact Or.inr rfl) ?_ (by first | rfl | simp [AV.ids, idsL])
  simp only [go_sem, r_ring_Live_1, ↓reduceIte, Nat.reduceEqDiff, Nat.reduceAdd, Nat.reduceLeDiff, reduceCtorEq, Nat.reduceLT, Int.reduceLT, Int.reduceLE, Int.reduceEq, Int.reduceToNat, Nat.reduceMul]

theorem f_ring_Live_2 (s t : Slot) : Meets Tryz.prog E0 n_ring_Live_2 [.ag [I s.1, I s.2], .ag [I t.1, I t.2]] [] (I (cmpI s.1 t.1)) [] := by
  refine m_ring_Live_2 (by simp) (shut0 rfl) (shut0 rfl) (by simp) (by simp [keysOf]) ?_
  simp only [go_sem, s_ring_Live_2, ↓reduceIte, Nat.reduceEqDiff, Nat.reduceAdd, Nat.reduceLeDiff, reduceCtorEq, Nat.reduceLT, Int.reduceLT, Int.reduceLE, Int.reduceEq, Int.reduceToNat, Nat.reduceMul]
  refine Cl_plain (f_cmp_Compare_int s.1 t.1) ?_
  simp only [go_sem, ↓reduceIte, Nat.reduceEqDiff, Nat.reduceAdd, Nat.reduceLeDiff, reduceCtorEq, Nat.reduceLT, Int.reduceLT, Int.reduceLE, Int.reduceEq, Int.reduceToNat, Nat.reduceMul]
  refine wends (by first | exact Or.inl rfl | exact Or.inr rfl) ?_ (by first | rfl | simp [AV.ids, idsL])
  simp only [go_sem, r_ring_Live_2, ↓reduceIte, Nat.reduceEqDiff, Nat.reduceAdd, Nat.reduceLeDiff, reduceCtorEq, Nat.reduceLT, Int.reduceLT, Int.reduceLE, Int.reduceEq, Int.reduceToNat, Nat.reduceMul]

def idxS (p : Slot → Bool) : List Slot → Nat → Int
  | [], _ => -1
  | s :: l, i => if p s then (i : Int) else idxS p l (i + 1)

theorem idxS_none {p : Slot → Bool} : ∀ {l : List Slot} (i : Nat), (∀ s ∈ l, p s = false) → idxS p l i = -1
  | [], _, _ => rfl
  | s :: l, i, h => by simp [idxS, h s (by simp), idxS_none (l := l) (i + 1) (fun x hx => h x (by simp [hx]))]

theorem idxS_some {p : Slot → Bool} {s : Slot} {post : List Slot} (hs : p s = true) : ∀ {pre : List Slot} (i : Nat), (∀ x ∈ pre, p x = false) → idxS p (pre ++ s :: post) i = ((i + pre.length : Nat) : Int)
  | [], i, _ => by simp [idxS, hs]
  | x :: pre, i, h => by
    simp only [List.cons_append, idxS, h x (by simp), Bool.false_eq_true, if_false]
    rw [idxS_some hs (i + 1) (fun y hy => h y (by simp [hy]))]
    simp only [List.length_cons]; omega

theorem split_first (p : Slot → Bool) : ∀ (l : List Slot), (∀ s ∈ l, p s = false) ∨ ∃ pre s post, l = pre ++ s :: post ∧ (∀ x ∈ pre, p x = false) ∧ p s = true
  | [] => Or.inl (by simp)
  | x :: l => by
    cases hx : p x
    · rcases split_first p l with h | ⟨pre, s, post, rfl, h1, h2⟩
      · refine Or.inl ?_
        intro s hs; rcases List.mem_cons.1 hs with rfl | hs
        · exact hx
        · exact h s hs
      · refine Or.inr ⟨x :: pre, s, post, rfl, ?_, h2⟩
        intro s hs; rcases List.mem_cons.1 hs with rfl | hs
        · exact hx
        · exact h1 s hs
    · exact Or.inr ⟨[], x, l, rfl, by simp, hx⟩

theorem f_IndexFunc_own (g : Nat) (p : Slot → Bool) (l : List Slot) (hn : l.length ≤ maxLen) (hg : ∀ s : Slot, Meets Tryz.prog E0 g [.ag [I s.1, I s.2]] [] (Bo (p s)) []) :
    Meets Tryz.prog E0 n_slices_IndexFunc_Sapi_Slot_api_Slot [.own 0 2 0 l.length true, .fn g [] []] [(0, .row 2 true (l.map slT))] (I (idxS p l 0)) [(0, .row 2 true (l.map slT))] := by
  have hn2 : l.length ≤ 9223372036854775807 := hn
  generalize hout : idxS p l 0 = out
  refine m_slices_IndexFunc_Sapi_Slot_api_Slot (by simp) (shut_of (by simp [idsL, AV.ids, keysOf]) (by simp [Ob.live, Ob.ids, keysOf, idsL, AV.ids])) (shut_of (by simp [idsL, AV.ids, keysOf]) (by simp [Ob.live, Ob.ids, keysOf, idsL, AV.ids])) (by simp [keysOf]) (by simp [keysOf]) ?_
  simp only [go_sem, s_slices_IndexFunc_Sapi_Slot_api_Slot, ↓reduceIte, Nat.reduceEqDiff, Nat.reduceAdd, Nat.reduceLeDiff, reduceCtorEq, Nat.reduceLT, Int.reduceLT, Int.reduceLE, Int.reduceEq, Int.reduceToNat, Nat.reduceMul]
  refine W_loop (fun i : Nat => l.length - i) (fun i => i ≤ l.length ∧ idxS p (l.drop i) i = out)
    (fun i => [(0, .own 0 2 0 l.length true), (1, .fn g [] []), (7, I l.length), (8, I i)])
    (fun i => [(0, .row 2 true (l.map slT))]) 0 ⟨Nat.zero_le _, by simpa using hout⟩ (subL [] [] (by simp [envS, go_sem, wkV, wkL, AV.ids, idsL, keysOf, ren, stoOf, slTrees, AV.asOwn, rowPart, AV.isNil] <;> assumption) (by simp [stoS, go_sem, wkV, wkL, wkO, AV.ids, Ob.ids, idsL, keysOf, ren, AV.one, stoOf, slTrees, AV.asOwn, rowPart, AV.isNil] <;> assumption) (by simp [keysOf, ren]) (by simp [stoOf, keysOf, ren]) (by simp [keysOf, ren]) (by simp [keysOf, ren])) ?_
  rintro i ⟨hi, hr⟩
  simp only [go_sem, ↓reduceIte, Nat.reduceEqDiff, Nat.reduceAdd, Nat.reduceLeDiff, reduceCtorEq, Nat.reduceLT, Int.reduceLT, Int.reduceLE, Int.reduceEq, Int.reduceToNat, Nat.reduceMul]
  refine W_split rfl (fun h => ?_) (fun h => ?_)
  · simp at h
    obtain ⟨s, hs⟩ := get_of_lt h
    have ei : IntKind.i64.wrap ((i : Int) + 1) = ((i + 1 : Nat) : Int) := by rw [wrap_i64_of (by omega) (by omega)]; omega
    have ib : (i : Int) < (l.length : Int) := by omega
    rw [drop_get hs] at hr
    simp only [idxS] at hr
    simp only [go_sem, hs, slT, ib, ↓reduceIte, Nat.reduceEqDiff, Nat.reduceAdd, Nat.reduceLeDiff, reduceCtorEq, Nat.reduceLT, Int.reduceLT, Int.reduceLE, Int.reduceEq, Int.reduceToNat, Nat.reduceMul]
    refine Cl_plain (hg s) ?_
    cases hp : p s
    · rw [hp, if_neg (by decide)] at hr
      simp only [go_sem, ei, ↓reduceIte, Nat.reduceEqDiff, Nat.reduceAdd, Nat.reduceLeDiff, reduceCtorEq, Nat.reduceLT, Int.reduceLT, Int.reduceLE, Int.reduceEq, Int.reduceToNat, Nat.reduceMul]
      exact rd_of (i + 1) (by first | omega | (simp only; omega)) ⟨by first | omega | (simp only; omega), hr⟩ (subL [] [] (by simp [envS, go_sem, wkV, wkL, AV.ids, idsL, keysOf, ren, stoOf, slTrees, AV.asOwn, rowPart, AV.isNil] <;> assumption) (by simp [stoS, go_sem, wkV, wkL, wkO, AV.ids, Ob.ids, idsL, keysOf, ren, AV.one, stoOf, slTrees, AV.asOwn, rowPart, AV.isNil] <;> assumption) (by simp [keysOf, ren]) (by simp [stoOf, keysOf, ren]) (by simp [keysOf, ren]) (by simp [keysOf, ren]))
    · rw [hp, if_pos rfl] at hr
      simp only [go_sem, ↓reduceIte, Nat.reduceEqDiff, Nat.reduceAdd, Nat.reduceLeDiff, reduceCtorEq, Nat.reduceLT, Int.reduceLT, Int.reduceLE, Int.reduceEq, Int.reduceToNat, Nat.reduceMul]
      refine wends2 [] [] (by first | exact Or.inl rfl | exact Or.inr rfl) ?_ (by simp [AV.ids, idsL, keysOf]) (by simp [stoS, wkO, ls_cons, ls_nil, stoOf, ren, keysOf, Ob.ids, wkV, wkL, AV.one, idsL, AV.ids] <;> assumption) (by simp [keysOf, ren]) (by simp [stoOf, keysOf, ren]) (by simp [keysOf, ren]) (by simp [keysOf, ren])
      simp only [go_sem, r_slices_IndexFunc_Sapi_Slot_api_Slot, exists_eq_left', Option.some.injEq, ↓reduceIte, Nat.reduceEqDiff, Nat.reduceAdd, Nat.reduceLeDiff, reduceCtorEq, Nat.reduceLT, Int.reduceLT, Int.reduceLE, Int.reduceEq, Int.reduceToNat, Nat.reduceMul]
      simp [wkV, wkL, slTrees, AV.asOwn, rowPart, stoOf, AV.isNil, hr]
  · have e : i = l.length := by simp at h; omega
    subst e
    rw [List.drop_length] at hr
    simp only [idxS] at hr
    simp only [go_sem, ↓reduceIte, Nat.reduceEqDiff, Nat.reduceAdd, Nat.reduceLeDiff, reduceCtorEq, Nat.reduceLT, Int.reduceLT, Int.reduceLE, Int.reduceEq, Int.reduceToNat, Nat.reduceMul]
    refine wends2 [] [] (by first | exact Or.inl rfl | exact Or.inr rfl) ?_ (by simp [AV.ids, idsL, keysOf]) (by simp [stoS, wkO, ls_cons, ls_nil, stoOf, ren, keysOf, Ob.ids, wkV, wkL, AV.one, idsL, AV.ids] <;> assumption) (by simp [keysOf, ren]) (by simp [stoOf, keysOf, ren]) (by simp [keysOf, ren]) (by simp [keysOf, ren])
    simp only [go_sem, r_slices_IndexFunc_Sapi_Slot_api_Slot, exists_eq_left', Option.some.injEq, ↓reduceIte, Nat.reduceEqDiff, Nat.reduceAdd, Nat.reduceLeDiff, reduceCtorEq, Nat.reduceLT, Int.reduceLT, Int.reduceLE, Int.reduceEq, Int.reduceToNat, Nat.reduceMul]
    simp [wkV, wkL, slTrees, AV.asOwn, rowPart, stoOf, AV.isNil, hr]

def zeroS : List T := [.v (.int .i64 0), .v (.int .i64 0)]
def leftS (p : Slot → Bool) (l : List Slot) : List Slot := l.filter fun s => !p s

theorem left_len (p : Slot → Bool) (l : List Slot) : (leftS p l).length ≤ l.length := List.length_filter_le _ _

theorem left_succ {p : Slot → Bool} {l : List Slot} {j : Nat} {s : Slot} (h : l[j]? = some s) : leftS p (l.take (j + 1)) = leftS p (l.take j) ++ (if p s then [] else [s]) := by
  unfold leftS
  rw [List.take_add_one, h, List.filter_append]
  cases hp : p s <;> simp [hp]

theorem set_at {α : Type} (a : List α) (x : α) (b : List α) (y : α) (n : Nat) (h : a.length = n) : (a ++ x :: b).set n y = a ++ y :: b := by
  subst h
  rw [List.set_append_right _ _ (Nat.le_refl _), Nat.sub_self]
  rfl

theorem get_far {a l : List Slot} {j : Nat} {s : Slot} (h : l[j]? = some s) (ha : a.length = j) : (a ++ l.drop j)[j]? = some s := by
  rw [List.getElem?_append_right (by omega), ha, Nat.sub_self, drop_get h]
  rfl

theorem f_DeleteFunc (g : Nat) (p : Slot → Bool) (l : List Slot) (hn : l.length ≤ 100000) (hg : ∀ s : Slot, Meets Tryz.prog E0 g [.ag [I s.1, I s.2]] [] (Bo (p s)) []) :
    Meets Tryz.prog E0 n_slices_DeleteFunc_Sapi_Slot_api_Slot [.own 0 2 0 l.length true, .fn g [] []] [(0, .row 2 true (l.map slT))] (.own 0 2 0 (leftS p l).length true) [(0, .row 2 true ((leftS p l).map slT ++ List.replicate (l.length - (leftS p l).length) zeroS))] := by
  have hmx : maxLen = 9223372036854775807 := rfl
  have bI := f_IndexFunc_own g p l (by omega) hg
  refine m_slices_DeleteFunc_Sapi_Slot_api_Slot (by simp) (shut_of (by simp [idsL, AV.ids, keysOf]) (by simp [Ob.live, Ob.ids, keysOf, idsL, AV.ids])) (shut_of (by simp [idsL, AV.ids, keysOf]) (by simp [Ob.live, Ob.ids, keysOf, idsL, AV.ids])) (by simp [keysOf]) (by simp [keysOf]) ?_
  rcases split_first p l with hno | ⟨pre, s0, post, hl, hpre, hs0⟩
  · rw [idxS_none 0 hno] at bI
    have hle : leftS p l = l := List.filter_eq_self.2 (fun s hs => by simp [hno s hs])
    rw [hle, Nat.sub_self]
    simp only [go_sem, s_slices_DeleteFunc_Sapi_Slot_api_Slot, ↓reduceIte, Nat.reduceEqDiff, Nat.reduceAdd, Nat.reduceLeDiff, reduceCtorEq, Nat.reduceLT, Int.reduceLT, Int.reduceLE, Int.reduceEq, Int.reduceToNat, Nat.reduceMul]
    refine Cl_obj (ins := _) (hin := by simp [keysOf, stoOf]) (hk := by simp [keysOf]) (nd := by simp [keysOf]) (h := bI) ?_
    have d1 : decide ((-1 : Int) = -1) = true := rfl
    simp only [go_sem, d1, ↓reduceIte, Nat.reduceEqDiff, Nat.reduceAdd, Nat.reduceLeDiff, reduceCtorEq, Nat.reduceLT, Int.reduceLT, Int.reduceLE, Int.reduceEq, Int.reduceToNat, Nat.reduceMul]
    refine wends2 [] [] (by first | exact Or.inl rfl | exact Or.inr rfl) ?_ (by simp [AV.ids, idsL, keysOf]) (by simp [stoS, wkO, ls_cons, ls_nil, stoOf, ren, keysOf, Ob.ids, wkV, wkL, AV.one, idsL, AV.ids] <;> assumption) (by simp [keysOf, ren]) (by simp [stoOf, keysOf, ren]) (by simp [keysOf, ren]) (by simp [keysOf, ren])
    simp only [go_sem, r_slices_DeleteFunc_Sapi_Slot_api_Slot, exists_eq_left', Option.some.injEq, ↓reduceIte, Nat.reduceEqDiff, Nat.reduceAdd, Nat.reduceLeDiff, reduceCtorEq, Nat.reduceLT, Int.reduceLT, Int.reduceLE, Int.reduceEq, Int.reduceToNat, Nat.reduceMul]
    simp [wkV, wkL, slTrees, AV.asOwn, rowPart, stoOf, AV.isNil, ren]
  · have hidx : idxS p l 0 = (pre.length : Int) := by rw [hl, idxS_some hs0 0 hpre, Nat.zero_add]
    rw [hidx] at bI
    have hll : pre.length + (post.length + 1) = l.length := by rw [hl]; simp
    have d1 : decide ((pre.length : Int) = -1) = false := decide_eq_false (by omega)
    have e1 : IntKind.i64.wrap ((pre.length : Int) + 1) = ((pre.length + 1 : Nat) : Int) := by rw [wrap_i64_of (by omega) (by omega)]; omega
    have htk : l.take (pre.length + 1) = pre ++ [s0] := by
      rw [hl, List.take_append, List.take_of_length_le (by omega), show pre.length + 1 - pre.length = 1 by omega]; rfl
    have hlp : leftS p (l.take (pre.length + 1)) = pre := by
      rw [htk]; unfold leftS
      rw [List.filter_append, List.filter_eq_self.2 (fun s hs => by simp [hpre s hs])]
      simp [hs0]
    have hdr : l.drop (pre.length + 1) = post := by rw [hl]; simp
    simp only [go_sem, s_slices_DeleteFunc_Sapi_Slot_api_Slot, ↓reduceIte, Nat.reduceEqDiff, Nat.reduceAdd, Nat.reduceLeDiff, reduceCtorEq, Nat.reduceLT, Int.reduceLT, Int.reduceLE, Int.reduceEq, Int.reduceToNat, Nat.reduceMul]
    refine Cl_obj (ins := _) (hin := by simp [keysOf, stoOf]) (hk := by simp [keysOf]) (nd := by simp [keysOf]) (h := bI) ?_
    simp only [go_sem, d1, e1, ↓reduceIte, Nat.reduceEqDiff, Nat.reduceAdd, Nat.reduceLeDiff, reduceCtorEq, Nat.reduceLT, Int.reduceLT, Int.reduceLE, Int.reduceEq, Int.reduceToNat, Nat.reduceMul]
    refine W_loop (fun x : Nat × List Slot => l.length - x.1) (fun x => x.1 ≤ l.length ∧ x.2 ≠ [] ∧ (leftS p (l.take x.1) ++ x.2).length = x.1)
      (fun x => [(0, .own 0 2 0 l.length true), (1, .fn g [] []), (5, I (leftS p (l.take x.1)).length), (6, I x.1)])
      (fun x => [(0, .row 2 true (((leftS p (l.take x.1) ++ x.2) ++ l.drop x.1).map slT))])
      (pre.length + 1, [s0]) ⟨by omega, by simp, by rw [hlp]; simp⟩ ?_ ?_
    · simp only [hlp, hdr]
      rw [show (pre ++ [s0]) ++ post = l by rw [hl]; simp]
      exact (subL [] [] (by simp [envS, go_sem, wkV, wkL, AV.ids, idsL, keysOf, ren, stoOf, slTrees, AV.asOwn, rowPart, AV.isNil] <;> assumption) (by simp [stoS, go_sem, wkV, wkL, wkO, AV.ids, Ob.ids, idsL, keysOf, ren, AV.one, stoOf, slTrees, AV.asOwn, rowPart, AV.isNil] <;> assumption) (by simp [keysOf, ren]) (by simp [stoOf, keysOf, ren]) (by simp [keysOf, ren]) (by simp [keysOf, ren]))
    rintro ⟨j, st⟩ ⟨hj, hst, hjl⟩
    simp only at hj hst hjl
    simp only [go_sem, ↓reduceIte, Nat.reduceEqDiff, Nat.reduceAdd, Nat.reduceLeDiff, reduceCtorEq, Nat.reduceLT, Int.reduceLT, Int.reduceLE, Int.reduceEq, Int.reduceToNat, Nat.reduceMul]
    refine W_split rfl (fun h => ?_) (fun h => ?_)
    · simp at h
      obtain ⟨s, hs⟩ := get_of_lt h
      have ei : IntKind.i64.wrap ((j : Int) + 1) = ((j + 1 : Nat) : Int) := by rw [wrap_i64_of (by omega) (by omega)]; omega
      have ib : (j : Int) < (l.length : Int) := by omega
      have hget := get_far hs hjl
      have hsucc := left_succ (p := p) hs
      have hdj := drop_get hs
      generalize hK : leftS p (l.take j) = K at *
      simp only [go_sem, hget, slT, ib, ↓reduceIte, Nat.reduceEqDiff, Nat.reduceAdd, Nat.reduceLeDiff, reduceCtorEq, Nat.reduceLT, Int.reduceLT, Int.reduceLE, Int.reduceEq, Int.reduceToNat, Nat.reduceMul]
      refine Cl_plain (hg s) ?_
      cases hp : p s
      · rw [hp, if_neg (by decide)] at hsucc
        obtain ⟨x, st', rfl⟩ : ∃ x st', st = x :: st' := by cases st with | nil => exact absurd rfl hst | cons x st' => exact ⟨x, st', rfl⟩
        have ib2 : (K.length : Int) < (l.length : Int) := by simp at hjl; omega
        have e2 : IntKind.i64.wrap ((K.length : Int) + 1) = ((K.length + 1 : Nat) : Int) := by rw [wrap_i64_of (by simp at hjl; omega) (by simp at hjl; omega)]; omega
        have hgx : ((K ++ x :: st') ++ l.drop j)[K.length]? = some x := by
          rw [List.append_assoc, List.getElem?_append_right (Nat.le_refl _), Nat.sub_self]; rfl
        have hset : (((K ++ x :: st') ++ l.drop j).map slT).set K.length [.v (.int .i64 s.1), .v (.int .i64 s.2)] = (((K ++ [s]) ++ (st' ++ [s])) ++ l.drop (j + 1)).map slT := by
          rw [show [T.v (.int .i64 s.1), T.v (.int .i64 s.2)] = slT s from rfl, ← List.map_set, List.append_assoc, List.cons_append, set_at K x (st' ++ l.drop j) s K.length rfl, hdj]
          simp
        simp only [go_sem, hgx, slT, ib2, hset, e2, ei, ↓reduceIte, Nat.reduceEqDiff, Nat.reduceAdd, Nat.reduceLeDiff, reduceCtorEq, Nat.reduceLT, Int.reduceLT, Int.reduceLE, Int.reduceEq, Int.reduceToNat, Nat.reduceMul]
        refine rd_of (j + 1, st' ++ [s]) (by simp only; omega) ⟨by simp only; omega, by simp, by simp only [hsucc]; simp at hjl ⊢; omega⟩ ?_
        simp only [hsucc, List.length_append, List.length_singleton]
        exact (subL [] [] (by simp [envS, go_sem, wkV, wkL, AV.ids, idsL, keysOf, ren, stoOf, slTrees, AV.asOwn, rowPart, AV.isNil] <;> assumption) (by simp [stoS, go_sem, wkV, wkL, wkO, AV.ids, Ob.ids, idsL, keysOf, ren, AV.one, stoOf, slTrees, AV.asOwn, rowPart, AV.isNil] <;> assumption) (by simp [keysOf, ren]) (by simp [stoOf, keysOf, ren]) (by simp [keysOf, ren]) (by simp [keysOf, ren]))
      · rw [hp, if_pos rfl, List.append_nil] at hsucc
        simp only [go_sem, ei, ↓reduceIte, Nat.reduceEqDiff, Nat.reduceAdd, Nat.reduceLeDiff, reduceCtorEq, Nat.reduceLT, Int.reduceLT, Int.reduceLE, Int.reduceEq, Int.reduceToNat, Nat.reduceMul]
        refine rd_of (j + 1, st ++ [s]) (by simp only; omega) ⟨by simp only; omega, by simp, by simp only [hsucc]; simp at hjl ⊢; omega⟩ ?_
        simp only [hsucc]
        rw [show (K ++ st) ++ l.drop j = (K ++ (st ++ [s])) ++ l.drop (j + 1) by rw [hdj]; simp]
        exact (subL [] [] (by simp [envS, go_sem, wkV, wkL, AV.ids, idsL, keysOf, ren, stoOf, slTrees, AV.asOwn, rowPart, AV.isNil] <;> assumption) (by simp [stoS, go_sem, wkV, wkL, wkO, AV.ids, Ob.ids, idsL, keysOf, ren, AV.one, stoOf, slTrees, AV.asOwn, rowPart, AV.isNil] <;> assumption) (by simp [keysOf, ren]) (by simp [stoOf, keysOf, ren]) (by simp [keysOf, ren]) (by simp [keysOf, ren]))
    · have e : j = l.length := by simp at h; omega
      subst e
      rw [List.take_length] at hjl
      simp only [List.take_length, List.drop_length, List.append_nil]
      have hKl : (leftS p l).length ≤ l.length := by rw [List.length_append] at hjl; omega
      generalize hK : leftS p l = K at *
      have hk1 : (0 : Int) ≤ (K.length : Int) := by omega
      have hk2 : (K.length : Int) ≤ (l.length : Int) := by omega
      have eN : ((l.length : Int) - (K.length : Int)).toNat = l.length - K.length := by omega
      have hlen : ((K ++ st).map slT).length = l.length := by simpa using hjl
      have hle2 : K.length + (l.length - K.length) ≤ l.length := by omega
      have hfin : List.take K.length ((K ++ st).map slT) ++ List.replicate (l.length - K.length) [T.v (.int .i64 0), T.v (.int .i64 0)] ++ List.drop (K.length + (l.length - K.length)) ((K ++ st).map slT) = K.map slT ++ List.replicate (l.length - K.length) zeroS := by
        rw [List.drop_eq_nil_of_le (by rw [hlen]; omega), List.map_append, List.take_append_of_le_length (by simp), List.take_of_length_le (by simp), List.append_nil]
        rfl
      simp only [go_sem, hk1, hk2, eN, hlen, hle2, hfin, ↓reduceIte, Nat.reduceEqDiff, Nat.reduceAdd, Nat.reduceLeDiff, reduceCtorEq, Nat.reduceLT, Int.reduceLT, Int.reduceLE, Int.reduceEq, Int.reduceToNat, Nat.reduceMul]
      refine wends2 [] [] (by first | exact Or.inl rfl | exact Or.inr rfl) ?_ (by simp [AV.ids, idsL, keysOf]) (by simp [stoS, wkO, ls_cons, ls_nil, stoOf, ren, keysOf, Ob.ids, wkV, wkL, AV.one, idsL, AV.ids] <;> assumption) (by simp [keysOf, ren]) (by simp [stoOf, keysOf, ren]) (by simp [keysOf, ren]) (by simp [keysOf, ren])
      simp only [go_sem, r_slices_DeleteFunc_Sapi_Slot_api_Slot, exists_eq_left', Option.some.injEq, ↓reduceIte, Nat.reduceEqDiff, Nat.reduceAdd, Nat.reduceLeDiff, reduceCtorEq, Nat.reduceLT, Int.reduceLT, Int.reduceLE, Int.reduceEq, Int.reduceToNat, Nat.reduceMul]
      simp [wkV, wkL, slTrees, AV.asOwn, rowPart, stoOf, AV.isNil, ren]

def encS (s : Slot) : List Value := [.int .i64 s.1, .int .i64 s.2]
def cfS (s t : Slot) : Int := cmpI s.1 t.1

theorem lt_cf (s t : Slot) : ltOf cfS s t = decide (s.1 < t.1) := by
  unfold ltOf cfS cmpI
  rw [decide_eq_decide]
  split
  · simp; assumption
  · split <;> simp <;> omega

theorem swo_cf : Go.Sort.SWO (ltOf cfS) where
  irrefl := fun x => by rw [lt_cf]; simp
  trans := fun x y z => by simp only [lt_cf, decide_eq_true_eq]; omega
  ntrans := fun x y z => by simp only [lt_cf, decide_eq_false_iff_not]; omega

theorem f_insertion_0 (g : Nat) (rest : List (List T)) : Meets Tryz.prog E0 n_slices_insertionSortCmpFunc_api_Slot [.own 0 2 0 0 true, I 0, I 0, .fn g [] []] [(0, .row 2 true rest)] (.tp []) [(0, .row 2 true rest)] := by
  refine m_slices_insertionSortCmpFunc_api_Slot (by simp) (shut_of (by simp [idsL, AV.ids, keysOf]) (by simp [Ob.live, Ob.ids, keysOf, idsL, AV.ids])) (shut_of (by simp [idsL, AV.ids, keysOf]) (by simp [Ob.live, Ob.ids, keysOf, idsL, AV.ids])) (by simp [keysOf]) (by simp [keysOf]) ?_
  have e1 : IntKind.i64.wrap (0 + 1) = 1 := by decide
  have d1 : decide ((1 : Int) < 0) = false := rfl
  simp only [go_sem, s_slices_insertionSortCmpFunc_api_Slot, e1, ↓reduceIte, Nat.reduceEqDiff, Nat.reduceAdd, Nat.reduceLeDiff, reduceCtorEq, Nat.reduceLT, Int.reduceLT, Int.reduceLE, Int.reduceEq, Int.reduceToNat, Nat.reduceMul]
  refine W_loop (fun _ : Unit => 0) (fun _ => True) (fun _ => [(0, .own 0 2 0 0 true), (1, I 0), (2, I 0), (3, .fn g [] []), (8, I 1)]) (fun _ => [(0, .row 2 true rest)]) () trivial (subL [] [] (by simp [envS, go_sem, wkV, wkL, AV.ids, idsL, keysOf, ren, stoOf, slTrees, AV.asOwn, rowPart, AV.isNil] <;> assumption) (by simp [stoS, go_sem, wkV, wkL, wkO, AV.ids, Ob.ids, idsL, keysOf, ren, AV.one, stoOf, slTrees, AV.asOwn, rowPart, AV.isNil] <;> assumption) (by simp [keysOf, ren]) (by simp [stoOf, keysOf, ren]) (by simp [keysOf, ren]) (by simp [keysOf, ren])) ?_
  intro _ _
  simp only [go_sem, d1, ↓reduceIte, Nat.reduceEqDiff, Nat.reduceAdd, Nat.reduceLeDiff, reduceCtorEq, Nat.reduceLT, Int.reduceLT, Int.reduceLE, Int.reduceEq, Int.reduceToNat, Nat.reduceMul]
  refine wends2 [] [] (by first | exact Or.inl rfl | exact Or.inr rfl) ?_ (by simp [AV.ids, idsL, keysOf]) (by simp [stoS, wkO, ls_cons, ls_nil, stoOf, ren, keysOf, Ob.ids, wkV, wkL, AV.one, idsL, AV.ids] <;> assumption) (by simp [keysOf, ren]) (by simp [stoOf, keysOf, ren]) (by simp [keysOf, ren]) (by simp [keysOf, ren])
  simp only [go_sem, r_slices_insertionSortCmpFunc_api_Slot, exists_eq_left', Option.some.injEq, ↓reduceIte, Nat.reduceEqDiff, Nat.reduceAdd, Nat.reduceLeDiff, reduceCtorEq, Nat.reduceLT, Int.reduceLT, Int.reduceLE, Int.reduceEq, Int.reduceToNat, Nat.reduceMul]
  simp [wkV, wkL, slTrees, AV.asOwn, rowPart, stoOf, AV.isNil, ren]

theorem f_pdq_0 (g : Nat) (rest : List (List T)) : Meets Tryz.prog E0 n_slices_pdqsortCmpFunc_api_Slot [.own 0 2 0 0 true, I 0, I 0, I 0, .fn g [] []] [(0, .row 2 true rest)] (.tp []) [(0, .row 2 true rest)] := by
  refine m_slices_pdqsortCmpFunc_api_Slot (by simp) (shut_of (by simp [idsL, AV.ids, keysOf]) (by simp [Ob.live, Ob.ids, keysOf, idsL, AV.ids])) (shut_of (by simp [idsL, AV.ids, keysOf]) (by simp [Ob.live, Ob.ids, keysOf, idsL, AV.ids])) (by simp [keysOf]) (by simp [keysOf]) ?_
  have e1 : IntKind.i64.wrap 0 = 0 := by decide
  have d1 : decide ((0 : Int) ≤ 12) = true := rfl
  simp only [go_sem, s_slices_pdqsortCmpFunc_api_Slot, ↓reduceIte, Nat.reduceEqDiff, Nat.reduceAdd, Nat.reduceLeDiff, reduceCtorEq, Nat.reduceLT, Int.reduceLT, Int.reduceLE, Int.reduceEq, Int.reduceToNat, Nat.reduceMul]
  refine W_loop (fun _ : Unit => 0) (fun _ => True) (fun _ => [(0, .own 0 2 0 0 true), (1, I 0), (2, I 0), (3, I 0), (4, .fn g [] []), (10, Bo true), (11, Bo true)]) (fun _ => [(0, .row 2 true rest)]) () trivial (subL [] [] (by simp [envS, go_sem, wkV, wkL, AV.ids, idsL, keysOf, ren, stoOf, slTrees, AV.asOwn, rowPart, AV.isNil] <;> assumption) (by simp [stoS, go_sem, wkV, wkL, wkO, AV.ids, Ob.ids, idsL, keysOf, ren, AV.one, stoOf, slTrees, AV.asOwn, rowPart, AV.isNil] <;> assumption) (by simp [keysOf, ren]) (by simp [stoOf, keysOf, ren]) (by simp [keysOf, ren]) (by simp [keysOf, ren])) ?_
  intro _ _
  simp only [go_sem, s_slices_pdqsortCmpFunc_api_Slot_b0, e1, d1, ↓reduceIte, Nat.reduceEqDiff, Nat.reduceAdd, Nat.reduceLeDiff, reduceCtorEq, Nat.reduceLT, Int.reduceLT, Int.reduceLE, Int.reduceEq, Int.reduceToNat, Nat.reduceMul]
  have b := f_insertion_0 g rest
  refine Cl_obj (ins := _) (hin := by simp [keysOf, stoOf]) (hk := by simp [keysOf]) (nd := by simp [keysOf]) (h := b) ?_
  simp only [go_sem, ↓reduceIte, Nat.reduceEqDiff, Nat.reduceAdd, Nat.reduceLeDiff, reduceCtorEq, Nat.reduceLT, Int.reduceLT, Int.reduceLE, Int.reduceEq, Int.reduceToNat, Nat.reduceMul]
  refine wends2 [] [] (by first | exact Or.inl rfl | exact Or.inr rfl) ?_ (by simp [AV.ids, idsL, keysOf]) (by simp [stoS, wkO, ls_cons, ls_nil, stoOf, ren, keysOf, Ob.ids, wkV, wkL, AV.one, idsL, AV.ids] <;> assumption) (by simp [keysOf, ren]) (by simp [stoOf, keysOf, ren]) (by simp [keysOf, ren]) (by simp [keysOf, ren])
  simp only [go_sem, r_slices_pdqsortCmpFunc_api_Slot, exists_eq_left', Option.some.injEq, ↓reduceIte, Nat.reduceEqDiff, Nat.reduceAdd, Nat.reduceLeDiff, reduceCtorEq, Nat.reduceLT, Int.reduceLT, Int.reduceLE, Int.reduceEq, Int.reduceToNat, Nat.reduceMul]
  simp [wkV, wkL, slTrees, AV.asOwn, rowPart, stoOf, AV.isNil, ren]

theorem f_bits_Len_0 : Meets Tryz.prog E0 n_bits_Len [U 0] [] (I 0) [] := by
  refine m_bits_Len (by simp) (shut0 rfl) (shut0 rfl) (by simp) (by simp [keysOf]) ?_
  have b := f_bits_Len64 0 0 (by decide) ⟨by decide, Or.inl rfl⟩
  simp only [go_sem, s_bits_Len, ↓reduceIte, Nat.reduceEqDiff, Nat.reduceAdd, Nat.reduceLeDiff, reduceCtorEq, Nat.reduceLT, Int.reduceLT, Int.reduceLE, Int.reduceEq, Int.reduceToNat, Nat.reduceMul]
  refine Cl_plain b ?_
  simp only [go_sem, ↓reduceIte, Nat.reduceEqDiff, Nat.reduceAdd, Nat.reduceLeDiff, reduceCtorEq, Nat.reduceLT, Int.reduceLT, Int.reduceLE, Int.reduceEq, Int.reduceToNat, Nat.reduceMul]
  refine wends (by first | exact Or.inl rfl | exact Or.inr rfl) ?_ (by first | rfl | simp [AV.ids, idsL])
  simp only [go_sem, r_bits_Len, ↓reduceIte, Nat.reduceEqDiff, Nat.reduceAdd, Nat.reduceLeDiff, reduceCtorEq, Nat.reduceLT, Int.reduceLT, Int.reduceLE, Int.reduceEq, Int.reduceToNat, Nat.reduceMul]
  rfl

theorem f_SortFunc_0 (g : Nat) (rest : List (List T)) : Meets Tryz.prog E0 n_slices_SortFunc_Sapi_Slot_api_Slot [.own 0 2 0 0 true, .fn g [] []] [(0, .row 2 true rest)] (.tp []) [(0, .row 2 true rest)] := by
  refine m_slices_SortFunc_Sapi_Slot_api_Slot (by simp) (shut_of (by simp [idsL, AV.ids, keysOf]) (by simp [Ob.live, Ob.ids, keysOf, idsL, AV.ids])) (shut_of (by simp [idsL, AV.ids, keysOf]) (by simp [Ob.live, Ob.ids, keysOf, idsL, AV.ids])) (by simp [keysOf]) (by simp [keysOf]) ?_
  have e1 : IntKind.u64.wrap ((0 : Nat) : Int) = 0 := by decide
  have b := f_pdq_0 g rest
  simp only [go_sem, s_slices_SortFunc_Sapi_Slot_api_Slot, e1, ↓reduceIte, Nat.reduceEqDiff, Nat.reduceAdd, Nat.reduceLeDiff, reduceCtorEq, Nat.reduceLT, Int.reduceLT, Int.reduceLE, Int.reduceEq, Int.reduceToNat, Nat.reduceMul]
  refine Cl_plain f_bits_Len_0 ?_
  simp only [go_sem, ↓reduceIte, Nat.reduceEqDiff, Nat.reduceAdd, Nat.reduceLeDiff, reduceCtorEq, Nat.reduceLT, Int.reduceLT, Int.reduceLE, Int.reduceEq, Int.reduceToNat, Nat.reduceMul]
  refine Cl_obj (ins := _) (hin := by simp [keysOf, stoOf]) (hk := by simp [keysOf]) (nd := by simp [keysOf]) (h := b) ?_
  simp only [go_sem, ↓reduceIte, Nat.reduceEqDiff, Nat.reduceAdd, Nat.reduceLeDiff, reduceCtorEq, Nat.reduceLT, Int.reduceLT, Int.reduceLE, Int.reduceEq, Int.reduceToNat, Nat.reduceMul]
  refine wends2 [] [] (by first | exact Or.inl rfl | exact Or.inr rfl) ?_ (by simp [AV.ids, idsL, keysOf]) (by simp [stoS, wkO, ls_cons, ls_nil, stoOf, ren, keysOf, Ob.ids, wkV, wkL, AV.one, idsL, AV.ids] <;> assumption) (by simp [keysOf, ren]) (by simp [stoOf, keysOf, ren]) (by simp [keysOf, ren]) (by simp [keysOf, ren])
  simp only [go_sem, r_slices_SortFunc_Sapi_Slot_api_Slot, exists_eq_left', Option.some.injEq, ↓reduceIte, Nat.reduceEqDiff, Nat.reduceAdd, Nat.reduceLeDiff, reduceCtorEq, Nat.reduceLT, Int.reduceLT, Int.reduceLE, Int.reduceEq, Int.reduceToNat, Nat.reduceMul]
  simp [wkV, wkL, slTrees, AV.asOwn, rowPart, stoOf, AV.isNil, ren]

theorem asc_of_sorted {d : Array Slot} (h : Go.Sort.SortedIn (ltOf cfS) 0 d.size d) (hn : d.toList.Pairwise fun a b => a.1 ≠ b.1) : Asc d.toList := by
  unfold Asc
  rw [List.pairwise_iff_getElem] at hn ⊢
  intro i j hi hj hij
  have hi' : i < d.size := by simpa using hi
  have hj' : j < d.size := by simpa using hj
  have h1 := h i j (Nat.zero_le _) hij hj'
  have h2 := hn i j hi hj hij
  rw [lt_cf, getElem!_pos d j hj', getElem!_pos d i hi'] at h1
  have h3 := of_decide_eq_false h1
  simp only [Array.getElem_toList] at h2 ⊢
  omega

theorem pdq_sort {l : List Slot} (hn : l.Pairwise fun a b => a.1 ≠ b.1) : (Go.Sort.pdq (ltOf cfS) l.toArray 0 l.length (Go.Lib.bitLen l.length) true true).toList = sortS l := by
  have h := Go.Sort.pdq_sorts (ltOf cfS) swo_cf l.toArray 0 l.toArray.size (Go.Lib.bitLen l.toArray.size) true true (Nat.zero_le _) (Nat.le_refl _) (Or.inl rfl)
  simp only [List.size_toArray] at h
  generalize Go.Sort.pdq (ltOf cfS) l.toArray 0 l.length (Go.Lib.bitLen l.length) true true = d at h ⊢
  obtain ⟨⟨h1, _, h2⟩, h3⟩ := h
  simp only [List.size_toArray] at h1
  have hp : d.toList.Perm l := by
    have e1 : d.extract 0 l.length = d := by rw [← h1]; simp
    have e2 : l.toArray.extract 0 l.length = l.toArray := by rw [show l.length = l.toArray.size by simp]; simp
    rw [e1, e2] at h2
    simpa using h2
  rw [← h1] at h3
  have hn2 : d.toList.Pairwise fun a b => a.1 ≠ b.1 := (List.Perm.pairwise_iff (fun h => Ne.symm h) hp).2 hn
  exact asc_uniq (asc_of_sorted h3 hn2) (sort_asc hn) (hp.trans (sort_perm l).symm)

theorem f_SortFunc (l : List Slot) (rest : List (List T)) (hn : l.Pairwise fun a b => a.1 ≠ b.1) (hl : l.length ≤ 100000) :
    Meets Tryz.prog E0 n_slices_SortFunc_Sapi_Slot_api_Slot [.own 0 2 0 l.length true, .fn n_ring_Live_2 [] []] [(0, .row 2 true (l.map slT ++ rest))] (.tp []) [(0, .row 2 true ((sortS l).map slT ++ rest))] := by
  rcases Nat.eq_zero_or_pos l.length with h0 | h0
  · have : l = [] := List.length_eq_zero_iff.1 h0
    subst this
    exact f_SortFunc_0 n_ring_Live_2 rest
  · have h := sort_meets (E := E0) Tryz.laysSort 2 Tryz.isAgg44 Tryz.sizeOf44 encS (fun _ => rfl) (fun x v hv => by
      simp only [encS, List.mem_cons, List.not_mem_nil, or_false] at hv
      rcases hv with rfl | rfl <;> rfl) cfS swo_cf n_ring_Live_2 (fun args w => enters_of Tryz.func41 (by kernel_rfl) rfl args w) (fun x y => f_ring_Live_2 x y) l rest h0 (by omega)
    rw [pdq_sort hn] at h
    exact h

theorem f_ring_Live (w : Int) (l : List Slot) : Meets Tryz.prog E0 n_ring_Live [ringV w l] [] (slL (liveM w l)) [] := by
  refine m_ring_Live (by simp) (shut0 rfl) (shut0 rfl) (by simp) (by simp [keysOf]) ?_
  have b1 := f_ring_Right w l
  cases hr : ringB w l
  · rw [hr] at b1
    have e : liveM w l = [] := by simp [liveM, hr]
    rw [e]
    simp only [go_sem, s_ring_Live, ↓reduceIte, Nat.reduceEqDiff, Nat.reduceAdd, Nat.reduceLeDiff, reduceCtorEq, Nat.reduceLT, Int.reduceLT, Int.reduceLE, Int.reduceEq, Int.reduceToNat, Nat.reduceMul]
    refine Cl_plain b1 ?_
    simp only [go_sem, ↓reduceIte, Nat.reduceEqDiff, Nat.reduceAdd, Nat.reduceLeDiff, reduceCtorEq, Nat.reduceLT, Int.reduceLT, Int.reduceLE, Int.reduceEq, Int.reduceToNat, Nat.reduceMul]
    refine wends2 [] [] (by first | exact Or.inl rfl | exact Or.inr rfl) ?_ (by simp [AV.ids, idsL]) (by simp [stoS]) (by simp [keysOf]) (by simp [stoOf, keysOf] <;> assumption) (by simp [keysOf]) (by simp [keysOf])
    simp only [go_sem, r_ring_Live, exists_eq_left', Option.some.injEq, ↓reduceIte, Nat.reduceEqDiff, Nat.reduceAdd, Nat.reduceLeDiff, reduceCtorEq, Nat.reduceLT, Int.reduceLT, Int.reduceLE, Int.reduceEq, Int.reduceToNat, Nat.reduceMul]
    simp [wkV, wkL, slTrees, AV.asOwn, rowPart, stoOf, AV.isNil]
  · rw [hr] at b1
    have hs := ringB_sized hr
    have hne := live_ne hr
    have e : liveM w l = sortS (leftS (fun s => decide (s.1 = -1)) l) := by simp only [liveM, hr, if_true]; rfl
    have hlk := left_len (fun s => decide (s.1 = -1)) l
    have bD := (f_DeleteFunc n_ring_Live_1 (fun s => decide (s.1 = -1)) l (by omega) f_ring_Live_1).ren (fun _ => 108) (by simp [keysOf])
    have bS := (f_SortFunc (leftS (fun s => decide (s.1 = -1)) l) (List.replicate (l.length - (leftS (fun s => decide (s.1 = -1)) l).length) zeroS) hne (by omega)).ren (fun _ => 108) (by simp [keysOf])
    simp only [renL, renA, renS, renO] at bD bS
    rw [e]
    have hsl : (sortS (leftS (fun s => decide (s.1 = -1)) l)).length = (leftS (fun s => decide (s.1 = -1)) l).length := (sort_perm _).length_eq
    generalize leftS (fun s => decide (s.1 = -1)) l = k at *
    simp only [go_sem, s_ring_Live, ↓reduceIte, Nat.reduceEqDiff, Nat.reduceAdd, Nat.reduceLeDiff, reduceCtorEq, Nat.reduceLT, Int.reduceLT, Int.reduceLE, Int.reduceEq, Int.reduceToNat, Nat.reduceMul]
    refine Cl_plain b1 ?_
    simp only [go_sem, ↓reduceIte, Nat.reduceEqDiff, Nat.reduceAdd, Nat.reduceLeDiff, reduceCtorEq, Nat.reduceLT, Int.reduceLT, Int.reduceLE, Int.reduceEq, Int.reduceToNat, Nat.reduceMul]
    cases hm : l.map slT with
    | nil => simp at hm; subst hm; simp at hs
    | cons e es =>
      have hes := map_len_succ hm
      refine Cl_new (xs := [slL l]) (by rw [slL, hm]; exact f_Clone_own 108 e es (by omega)) (by simp [keysOf, stoOf]) (by simp [keysOf]) ?_
      rw [hes, ← hm]
      simp only [go_sem, ↓reduceIte, Nat.reduceEqDiff, Nat.reduceAdd, Nat.reduceLeDiff, reduceCtorEq, Nat.reduceLT, Int.reduceLT, Int.reduceLE, Int.reduceEq, Int.reduceToNat, Nat.reduceMul]
      refine Cl_obj (ins := _) (hin := by simp [keysOf, stoOf]) (hk := by simp [keysOf]) (nd := by simp [keysOf]) (h := bD) ?_
      simp only [go_sem, ↓reduceIte, Nat.reduceEqDiff, Nat.reduceAdd, Nat.reduceLeDiff, reduceCtorEq, Nat.reduceLT, Int.reduceLT, Int.reduceLE, Int.reduceEq, Int.reduceToNat, Nat.reduceMul]
      refine Cl_obj (ins := _) (hin := by simp [keysOf, stoOf]) (hk := by simp [keysOf]) (nd := by simp [keysOf]) (h := bS) ?_
      simp only [go_sem, ↓reduceIte, Nat.reduceEqDiff, Nat.reduceAdd, Nat.reduceLeDiff, reduceCtorEq, Nat.reduceLT, Int.reduceLT, Int.reduceLE, Int.reduceEq, Int.reduceToNat, Nat.reduceMul]
      refine wends2 [] [108] (by first | exact Or.inl rfl | exact Or.inr rfl) ?_ (by simp [AV.ids, idsL]) (by simp [stoS]) (by simp [keysOf]) (by simp [stoOf, keysOf] <;> assumption) (by simp [keysOf]) (by simp [keysOf])
      simp only [go_sem, r_ring_Live, exists_eq_left', Option.some.injEq, ↓reduceIte, Nat.reduceEqDiff, Nat.reduceAdd, Nat.reduceLeDiff, reduceCtorEq, Nat.reduceLT, Int.reduceLT, Int.reduceLE, Int.reduceEq, Int.reduceToNat, Nat.reduceMul]
      simp [wkV, wkL, slTrees, AV.asOwn, rowPart, stoOf, AV.isNil, hsl, List.take_append_of_le_length, List.take_of_length_le]

theorem ins_at {s : Slot} : ∀ {l : List Slot} {k : Nat}, Asc l → k ≤ l.length → (∀ x, k ≠ 0 → l[k - 1]? = some x → x.1 ≤ s.1) → (∀ x ∈ l.drop k, s.1 < x.1) → insS s l = l.take k ++ s :: l.drop k
  | [], k, _, hk, _, _ => by simp [insS]
  | x :: l, 0, _, _, _, h => by
    have := h x (by simp)
    simp [insS, this]
  | x :: l, k + 1, ha, hk, h1, h2 => by
    unfold Asc at ha
    rw [List.pairwise_cons] at ha
    have hk' : k ≤ l.length := by simpa using hk
    have hx : ¬ s.1 < x.1 := by
      rcases Nat.eq_zero_or_pos k with h0 | h0
      · subst h0
        have := h1 x (by omega) (by simp)
        omega
      · obtain ⟨y, hy⟩ := get_of_lt (l := l) (i := k - 1) (by omega)
        have hy1 := h1 y (by omega) (by rw [show k + 1 - 1 = (k - 1) + 1 by omega, List.getElem?_cons_succ]; exact hy)
        have := ha.1 y (List.mem_of_getElem? hy)
        omega
    simp only [insS, if_neg hx, List.take_succ_cons, List.drop_succ_cons, List.cons_append]
    rw [ins_at ha.2 hk' (fun y hk0 hy => h1 y (by omega) (by rw [show k + 1 - 1 = (k - 1) + 1 by omega, List.getElem?_cons_succ]; exact hy)) (fun y hy => h2 y (by simpa using hy))]

def liveT (l : List Slot) (i : Nat) : List Slot := sortS ((l.take i).filter fun s => !decide (s.1 = -1))

theorem liveT_succ {l : List Slot} {i : Nat} {s : Slot} (h : l[i]? = some s) : liveT l (i + 1) = if s.1 = -1 then liveT l i else insS s (liveT l i) := by
  unfold liveT
  rw [List.take_add_one, h, List.filter_append]
  by_cases hs : s.1 = -1
  · simp [hs]
  · rw [if_neg hs]
    simp only [Option.toList_some]
    rw [List.filter_cons_of_pos (by simp [hs]), List.filter_nil]
    unfold sortS
    rw [List.foldl_append]; rfl

theorem liveT_asc {w : Int} {l : List Slot} (h : ringB w l = true) (i : Nat) : Asc (liveT l i) := by
  refine sort_asc ?_
  exact (live_ne h).sublist ((List.take_sublist i l).filter _)

theorem liveT_len (l : List Slot) (i : Nat) : (liveT l i).length ≤ i := by
  unfold liveT
  rw [(sort_perm _).length_eq]
  exact Nat.le_trans (List.length_filter_le _ _) (by rw [List.length_take]; omega)

theorem f_ref13_Live (w : Int) (l : List Slot) : Meets Tryz.prog E0 n_ref13_Live [ringV w l] [] (slL (liveM w l)) [] := by
  refine m_ref13_Live (by simp) (shut0 rfl) (shut0 rfl) (by simp) (by simp [keysOf]) ?_
  have b1 := f_ref13_Right w l
  cases hr : ringB w l
  · rw [hr] at b1
    have e : liveM w l = [] := by simp [liveM, hr]
    rw [e]
    simp only [go_sem, s_ref13_Live, ↓reduceIte, Nat.reduceEqDiff, Nat.reduceAdd, Nat.reduceLeDiff, reduceCtorEq, Nat.reduceLT, Int.reduceLT, Int.reduceLE, Int.reduceEq, Int.reduceToNat, Nat.reduceMul]
    refine Cl_plain b1 ?_
    simp only [go_sem, ↓reduceIte, Nat.reduceEqDiff, Nat.reduceAdd, Nat.reduceLeDiff, reduceCtorEq, Nat.reduceLT, Int.reduceLT, Int.reduceLE, Int.reduceEq, Int.reduceToNat, Nat.reduceMul]
    refine wends2 [] [] (by first | exact Or.inl rfl | exact Or.inr rfl) ?_ (by simp [AV.ids, idsL]) (by simp [stoS]) (by simp [keysOf]) (by simp [stoOf, keysOf] <;> assumption) (by simp [keysOf]) (by simp [keysOf])
    simp only [go_sem, r_ref13_Live, exists_eq_left', Option.some.injEq, ↓reduceIte, Nat.reduceEqDiff, Nat.reduceAdd, Nat.reduceLeDiff, reduceCtorEq, Nat.reduceLT, Int.reduceLT, Int.reduceLE, Int.reduceEq, Int.reduceToNat, Nat.reduceMul]
    simp [wkV, wkL, slTrees, AV.asOwn, rowPart, stoOf, AV.isNil]
  · rw [hr] at b1
    have hs := ringB_sized hr
    have e : liveM w l = liveT l l.length := by simp only [liveM, hr, if_true, liveT, List.take_length]
    rw [e]
    simp only [go_sem, s_ref13_Live, ↓reduceIte, Nat.reduceEqDiff, Nat.reduceAdd, Nat.reduceLeDiff, reduceCtorEq, Nat.reduceLT, Int.reduceLT, Int.reduceLE, Int.reduceEq, Int.reduceToNat, Nat.reduceMul]
    refine Cl_plain b1 ?_
    simp only [go_sem, ↓reduceIte, Nat.reduceEqDiff, Nat.reduceAdd, Nat.reduceLeDiff, reduceCtorEq, Nat.reduceLT, Int.reduceLT, Int.reduceLE, Int.reduceEq, Int.reduceToNat, Nat.reduceMul]
    refine W_loop (fun i : Nat => l.length - i) (fun i => i ≤ l.length)
      (fun i => [(1, .ptr 100 0), (3, .own 999 2 0 (liveT l i).length (!(liveT l i).isEmpty)), (4, I i)])
      (fun i => [(100, .box [I w, slL l]), (999, .row 2 (!(liveT l i).isEmpty) ((liveT l i).map slT))])
      0 (Nat.zero_le _) ?_ ?_
    · rw [show liveT l 0 = [] from rfl]
      exact (subL [(999, 888)] [] (by simp [envS, go_sem, wkV, wkL, AV.ids, idsL, keysOf, ren, stoOf, slTrees, AV.asOwn, rowPart, AV.isNil] <;> assumption) (by simp [stoS, go_sem, wkV, wkL, wkO, AV.ids, Ob.ids, idsL, keysOf, ren, AV.one, stoOf, slTrees, AV.asOwn, rowPart, AV.isNil] <;> assumption) (by simp [keysOf, ren]) (by simp [stoOf, keysOf, ren]) (by simp [keysOf, ren]) (by simp [keysOf, ren]))
    intro i hi
    simp only [go_sem, ↓reduceIte, Nat.reduceEqDiff, Nat.reduceAdd, Nat.reduceLeDiff, reduceCtorEq, Nat.reduceLT, Int.reduceLT, Int.reduceLE, Int.reduceEq, Int.reduceToNat, Nat.reduceMul]
    refine W_split rfl (fun h => ?_) (fun h => ?_)
    · simp at h
      obtain ⟨s, hget⟩ := get_of_lt h
      have ei : IntKind.i64.wrap ((i : Int) + 1) = ((i + 1 : Nat) : Int) := by rw [wrap_i64_of (by omega) (by omega)]; omega
      have hsucc := liveT_succ hget
      have hasc := liveT_asc hr i
      have hlen := liveT_len l i
      cases hd : decide (s.1 = -1)
      case true =>
        rw [if_pos (of_decide_eq_true hd)] at hsucc
        simp only [go_sem, hget, slT, hd, ↓reduceIte, Nat.reduceEqDiff, Nat.reduceAdd, Nat.reduceLeDiff, reduceCtorEq, Nat.reduceLT, Int.reduceLT, Int.reduceLE, Int.reduceEq, Int.reduceToNat, Nat.reduceMul]
        simp only [go_sem, ei, ↓reduceIte, Nat.reduceEqDiff, Nat.reduceAdd, Nat.reduceLeDiff, reduceCtorEq, Nat.reduceLT, Int.reduceLT, Int.reduceLE, Int.reduceEq, Int.reduceToNat, Nat.reduceMul]
        refine rd_of (i + 1) (by first | omega | (simp only; omega)) (by first | omega | (simp only; omega)) ?_
        rw [hsucc]
        exact (subL [] [] (by simp [envS, go_sem, wkV, wkL, AV.ids, idsL, keysOf, ren, stoOf, slTrees, AV.asOwn, rowPart, AV.isNil] <;> assumption) (by simp [stoS, go_sem, wkV, wkL, wkO, AV.ids, Ob.ids, idsL, keysOf, ren, AV.one, stoOf, slTrees, AV.asOwn, rowPart, AV.isNil] <;> assumption) (by simp [keysOf, ren]) (by simp [stoOf, keysOf, ren]) (by simp [keysOf, ren]) (by simp [keysOf, ren]))
      have hd' := of_decide_eq_false hd
      rw [if_neg hd'] at hsucc
      generalize hA : liveT l i = A at *
      simp only [go_sem, hget, slT, hd, ↓reduceIte, Nat.reduceEqDiff, Nat.reduceAdd, Nat.reduceLeDiff, reduceCtorEq, Nat.reduceLT, Int.reduceLT, Int.reduceLE, Int.reduceEq, Int.reduceToNat, Nat.reduceMul]
      refine W_loop (fun k : Nat => k) (fun k => k ≤ A.length ∧ ∀ x ∈ A.drop k, s.1 < x.1)
        (fun k => [(1, .ptr 100 0), (3, .own 999 2 0 A.length (!A.isEmpty)), (4, I i), (5, I k)])
        (fun k => [(100, .box [I w, slL l]), (999, .row 2 (!A.isEmpty) (A.map slT))])
        A.length ⟨Nat.le_refl _, by simp⟩ (subL [] [] (by simp [envS, go_sem, wkV, wkL, AV.ids, idsL, keysOf, ren, stoOf, slTrees, AV.asOwn, rowPart, AV.isNil] <;> assumption) (by simp [stoS, go_sem, wkV, wkL, wkO, AV.ids, Ob.ids, idsL, keysOf, ren, AV.one, stoOf, slTrees, AV.asOwn, rowPart, AV.isNil] <;> assumption) (by simp [keysOf, ren]) (by simp [stoOf, keysOf, ren]) (by simp [keysOf, ren]) (by simp [keysOf, ren])) ?_
      rintro k ⟨hk, hgt⟩
      have fin : (k = 0 ∨ ∃ x, A[k - 1]? = some x ∧ x.1 ≤ s.1) → insS s A = A.take k ++ s :: A.drop k := by
        intro h
        refine ins_at hasc hk (fun x hk0 hx => ?_) hgt
        rcases h with h | ⟨y, hy, hys⟩
        · exact absurd h hk0
        · rw [hx] at hy; injection hy with hy; subst hy; exact hys
      have g1 : (0 : Int) ≤ (k : Int) := by omega
      have g2 : (k : Int) ≤ (A.length : Int) := by omega
      have eN : ((A.length : Int) - (k : Int)).toNat = A.length - k := by omega
      have c1 : k + (A.length - k) ≤ A.length := by omega
      have c2 : k * 16 ≤ 2 ^ 47 := by omega
      have c3 : k < 2 ^ 47 := by omega
      have c4 : (k + 1) * 16 ≤ 2 ^ 47 := by omega
      have c5 : k + 1 < 2 ^ 47 := by omega
      have c6 : (k + 1 + (A.length - k)) * 16 ≤ 2 ^ 47 := by omega
      have c7 : k + 1 + (A.length - k) < 2 ^ 47 := by omega
      have hT : (A.map slT).take k = (A.take k).map slT := List.map_take.symm
      have hTl : (A.take k).length = k := by rw [List.length_take]; omega
      have hD : ((A.map slT).drop k).take (A.length - k) = (A.drop k).map slT := by rw [← List.map_drop, List.take_of_length_le (by simp)]
      have hDl : (A.drop k).length = A.length - k := by simp
      have hil : (insS s A).length = k + 1 + (A.length - k) := by rw [(ins_perm s A).length_eq, List.length_cons]; omega
      have hie : (insS s A).isEmpty = false := by
        cases hx : insS s A with
        | nil => rw [hx] at hil; simp at hil; omega
        | cons _ _ => rfl
      cases hk0 : decide ((0 : Int) < (k : Int))
      · have hk00 : k = 0 := by have := of_decide_eq_false hk0; omega
        have hfin := fin (Or.inl hk00)
        have em : (A.take k).map slT ++ [[T.v (.int .i64 s.1), T.v (.int .i64 s.2)]] ++ (A.drop k).map slT = (insS s A).map slT := by rw [hfin]; simp [slT]
        simp only [go_sem, hk0, g1, g2, eN, hk, hT, hTl, c2, c3, ↓reduceIte, Nat.reduceEqDiff, Nat.reduceAdd, Nat.reduceLeDiff, reduceCtorEq, Nat.reduceLT, Int.reduceLT, Int.reduceLE, Int.reduceEq, Int.reduceToNat, Nat.reduceMul]
        simp only [go_sem, hget, slT, hTl, c4, c5, g1, g2, eN, c1, hD, hDl, c6, c7, em, ↓reduceIte, Nat.reduceEqDiff, Nat.reduceAdd, Nat.reduceLeDiff, reduceCtorEq, Nat.reduceLT, Int.reduceLT, Int.reduceLE, Int.reduceEq, Int.reduceToNat, Nat.reduceMul]
        ((try (with_reducible refine R_fin (by repeat' (first | exact okp0 | refine okp rfl rfl rfl ?_)) ?_)); (try simp only [go_sem, ei, hget, slT, hTl, c4, c5, g1, g2, eN, c1, hD, hDl, c6, c7, em, ↓reduceIte, Nat.reduceEqDiff, Nat.reduceAdd, Nat.reduceLeDiff, reduceCtorEq, Nat.reduceLT, Int.reduceLT, Int.reduceLE, Int.reduceEq, Int.reduceToNat, Nat.reduceMul]))
        refine rd_of (i + 1) (by first | omega | (simp only; omega)) (by first | omega | (simp only; omega)) ?_
        rw [hsucc, hil, hie]
        exact (subL [(999, 158)] [] (by simp [envS, go_sem, wkV, wkL, AV.ids, idsL, keysOf, ren, stoOf, slTrees, AV.asOwn, rowPart, AV.isNil] <;> assumption) (by simp [stoS, go_sem, wkV, wkL, wkO, AV.ids, Ob.ids, idsL, keysOf, ren, AV.one, stoOf, slTrees, AV.asOwn, rowPart, AV.isNil] <;> assumption) (by simp [keysOf, ren]) (by simp [stoOf, keysOf, ren]) (by simp [keysOf, ren]) (by simp [keysOf, ren]))
      · have hk00 := of_decide_eq_true hk0
        obtain ⟨y, hy⟩ := get_of_lt (l := A) (i := k - 1) (by omega)
        have ek : IntKind.i64.wrap ((k : Int) - 1) = ((k - 1 : Nat) : Int) := by rw [wrap_i64_of (by omega) (by omega)]; omega
        have ib : ((k - 1 : Nat) : Int) < (A.length : Int) := by omega
        have hAe : A.isEmpty = false := by cases A with | nil => simp at hy | cons _ _ => rfl
        rw [hAe]
        cases hgt2 : decide (s.1 < y.1)
        · have hfin := fin (Or.inr ⟨y, hy, by have := of_decide_eq_false hgt2; omega⟩)
          simp only [go_sem, hk0, ek, ib, hy, slT, hget, hgt2, ↓reduceIte, Nat.reduceEqDiff, Nat.reduceAdd, Nat.reduceLeDiff, reduceCtorEq, Nat.reduceLT, Int.reduceLT, Int.reduceLE, Int.reduceEq, Int.reduceToNat, Nat.reduceMul]
          ((try (with_reducible refine R_fin (by repeat' (first | exact okp0 | refine okp rfl rfl rfl ?_)) ?_)); (try simp only [go_sem, hk0, ek, ib, hy, slT, hget, hgt2, ↓reduceIte, Nat.reduceEqDiff, Nat.reduceAdd, Nat.reduceLeDiff, reduceCtorEq, Nat.reduceLT, Int.reduceLT, Int.reduceLE, Int.reduceEq, Int.reduceToNat, Nat.reduceMul]))
          have em : (A.take k).map slT ++ [[T.v (.int .i64 s.1), T.v (.int .i64 s.2)]] ++ (A.drop k).map slT = (insS s A).map slT := by rw [hfin]; simp [slT]
          simp only [go_sem, g1, g2, eN, hk, hT, hTl, c2, c3, ↓reduceIte, Nat.reduceEqDiff, Nat.reduceAdd, Nat.reduceLeDiff, reduceCtorEq, Nat.reduceLT, Int.reduceLT, Int.reduceLE, Int.reduceEq, Int.reduceToNat, Nat.reduceMul]
          simp only [go_sem, hget, slT, hTl, c4, c5, g1, g2, eN, c1, hD, hDl, c6, c7, em, ↓reduceIte, Nat.reduceEqDiff, Nat.reduceAdd, Nat.reduceLeDiff, reduceCtorEq, Nat.reduceLT, Int.reduceLT, Int.reduceLE, Int.reduceEq, Int.reduceToNat, Nat.reduceMul]
          ((try (with_reducible refine R_fin (by repeat' (first | exact okp0 | refine okp rfl rfl rfl ?_)) ?_)); (try simp only [go_sem, ei, hget, slT, hTl, c4, c5, g1, g2, eN, c1, hD, hDl, c6, c7, em, ↓reduceIte, Nat.reduceEqDiff, Nat.reduceAdd, Nat.reduceLeDiff, reduceCtorEq, Nat.reduceLT, Int.reduceLT, Int.reduceLE, Int.reduceEq, Int.reduceToNat, Nat.reduceMul]))
          refine rd_of (i + 1) (by first | omega | (simp only; omega)) (by first | omega | (simp only; omega)) ?_
          rw [hsucc, hil, hie]
          exact (subL [(999, 158)] [] (by simp [envS, go_sem, wkV, wkL, AV.ids, idsL, keysOf, ren, stoOf, slTrees, AV.asOwn, rowPart, AV.isNil] <;> assumption) (by simp [stoS, go_sem, wkV, wkL, wkO, AV.ids, Ob.ids, idsL, keysOf, ren, AV.one, stoOf, slTrees, AV.asOwn, rowPart, AV.isNil] <;> assumption) (by simp [keysOf, ren]) (by simp [stoOf, keysOf, ren]) (by simp [keysOf, ren]) (by simp [keysOf, ren]))
        · have hgt3 := of_decide_eq_true hgt2
          simp only [go_sem, hk0, ek, ib, hy, slT, hget, hgt2, ↓reduceIte, Nat.reduceEqDiff, Nat.reduceAdd, Nat.reduceLeDiff, reduceCtorEq, Nat.reduceLT, Int.reduceLT, Int.reduceLE, Int.reduceEq, Int.reduceToNat, Nat.reduceMul]
          ((try (with_reducible refine R_fin (by repeat' (first | exact okp0 | refine okp rfl rfl rfl ?_)) ?_)); (try simp only [go_sem, hk0, ek, ib, hy, slT, hget, hgt2, ↓reduceIte, Nat.reduceEqDiff, Nat.reduceAdd, Nat.reduceLeDiff, reduceCtorEq, Nat.reduceLT, Int.reduceLT, Int.reduceLE, Int.reduceEq, Int.reduceToNat, Nat.reduceMul]))
          refine rd_of (k - 1) (by first | omega | (simp only; omega)) ⟨by first | omega | (simp only; omega), ?_⟩ ?_
          rotate_left
          · exact (subL [] [] (by simp [envS, go_sem, wkV, wkL, AV.ids, idsL, keysOf, ren, stoOf, slTrees, AV.asOwn, rowPart, AV.isNil] <;> assumption) (by simp [stoS, go_sem, wkV, wkL, wkO, AV.ids, Ob.ids, idsL, keysOf, ren, AV.one, stoOf, slTrees, AV.asOwn, rowPart, AV.isNil] <;> assumption) (by simp [keysOf, ren]) (by simp [stoOf, keysOf, ren]) (by simp [keysOf, ren]) (by simp [keysOf, ren]))
          intro x hx
          rw [show A.drop (k - 1) = y :: A.drop k by rw [drop_get hy, show k - 1 + 1 = k by omega]] at hx
          rcases List.mem_cons.1 hx with rfl | hx
          · exact hgt3
          · exact hgt x hx
    · have e : i = l.length := by simp at h; omega
      subst e
      simp only [go_sem, ↓reduceIte, Nat.reduceEqDiff, Nat.reduceAdd, Nat.reduceLeDiff, reduceCtorEq, Nat.reduceLT, Int.reduceLT, Int.reduceLE, Int.reduceEq, Int.reduceToNat, Nat.reduceMul]
      cases hA : liveT l l.length with
      | nil =>
        refine wends2 [] [] (by first | exact Or.inl rfl | exact Or.inr rfl) ?_ (by simp [AV.ids, idsL]) (by simp [stoS]) (by simp [keysOf]) (by simp [stoOf, keysOf] <;> assumption) (by simp [keysOf]) (by simp [keysOf])
        simp only [go_sem, r_ref13_Live, exists_eq_left', Option.some.injEq, ↓reduceIte, Nat.reduceEqDiff, Nat.reduceAdd, Nat.reduceLeDiff, reduceCtorEq, Nat.reduceLT, Int.reduceLT, Int.reduceLE, Int.reduceEq, Int.reduceToNat, Nat.reduceMul]
        simp [wkV, wkL, slTrees, AV.asOwn, rowPart, stoOf, AV.isNil]
      | cons a A =>
        refine wends2 [] [999] (by first | exact Or.inl rfl | exact Or.inr rfl) ?_ (by simp [AV.ids, idsL]) (by simp [stoS]) (by simp [keysOf]) (by simp [stoOf, keysOf] <;> assumption) (by simp [keysOf]) (by simp [keysOf])
        simp only [go_sem, r_ref13_Live, exists_eq_left', Option.some.injEq, ↓reduceIte, Nat.reduceEqDiff, Nat.reduceAdd, Nat.reduceLeDiff, reduceCtorEq, Nat.reduceLT, Int.reduceLT, Int.reduceLE, Int.reduceEq, Int.reduceToNat, Nat.reduceMul]
        simp [wkV, wkL, slTrees, AV.asOwn, rowPart, stoOf, AV.isNil, List.take_of_length_le]

end Go.Proofs.YtmjlldlaigoflaaGreat
