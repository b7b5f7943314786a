/- Contracts of what parts make. No statement of the seat is proved here. -/
import Derived.Test.YtmjlldlaigoflaaGreatLdTog
import Derived.Test.YtmjlldlaigoflaaGreatFxRef
import Derived.Test.YtmjlldlaigoflaaGreatRgSpan
import Derived.Test.YtmjlldlaigoflaaGreatRgNew
import Derived.Test.YtmjlldlaigoflaaGreatRgSame
import Derived.Test.YtmjlldlaigoflaaGreatFxLaw
set_option linter.unusedSimpArgs false
set_option linter.unusedVariables false
namespace Go.Proofs.YtmjlldlaigoflaaGreat
open Go Go.Sx

abbrev iT (v : Int) : List T := [.v (.int .i64 v)]
abbrev intL (l : List Int) : AV := .t (.sl 1 (l.map iT))
/-- What fits, of each. -/
def InL (l : List Int) : Prop := ∀ v ∈ l, -9223372036854775808 ≤ v ∧ v < 9223372036854775808
def sumM (l : List Int) : Option Int := l.foldl (fun s v => addM s (valM false v)) (some 0)
def leastM (l : List Int) : Option Int := l.foldl (fun s v => lessM s (valM false v)) none
def mostM (l : List Int) : Option Int := l.foldl (fun s v => moreM s (valM false v)) none
def lastM (l : List Int) : Option Int := match l.getLast? with
  | some v => valM false v
  | none => none
def blendM (m : Int) (l : List Int) : Option Int :=
  if l = [] then none else if m = 1 then divM (sumM l) (tellM (l.length * 1000000)) else if m = 2 then sumM l else if m = 3 then leastM l else if m = 4 then mostM l else if m = 5 then lastM l else none

theorem foldl_take {α β : Type} (f : β → α → β) (b : β) (l : List α) (i : Nat) (x : α) (h : l[i]? = some x) : (l.take (i + 1)).foldl f b = f ((l.take i).foldl f b) x := by
  have hi := (List.getElem?_eq_some_iff.1 h)
  obtain ⟨hi, rfl⟩ := hi
  rw [List.take_succ_eq_append_getElem hi, List.foldl_append]; rfl

theorem lessM_rt {a b : Option Int} (ha : Rt a) (hb : Rt b) : Rt (lessM a b) := by
  intro z h
  cases a <;> cases b <;> simp only [lessM] at h
  · cases h
  · exact hb z h
  · exact ha z h
  · split at h
    · exact ha z h
    · exact hb z h

theorem moreM_rt {a b : Option Int} (ha : Rt a) (hb : Rt b) : Rt (moreM a b) := by
  intro z h
  cases a <;> cases b <;> simp only [moreM] at h
  · cases h
  · exact hb z h
  · exact ha z h
  · split at h
    · exact ha z h
    · exact hb z h

theorem sum_rt : ∀ (l : List Int) (s : Option Int), Rt s → Rt (l.foldl (fun s v => addM s (valM false v)) s)
  | [], s, h => h
  | v :: l, s, _ => sum_rt l _ (addM_rt _ _)

theorem least_rt : ∀ (l : List Int) (s : Option Int), Rt s → InL l → Rt (l.foldl (fun s v => lessM s (valM false v)) s)
  | [], s, h, _ => h
  | v :: l, s, h, hl => least_rt l _ (lessM_rt h (valM_rt (hl v (by simp)).2)) (fun x hx => hl x (by simp [hx]))

theorem most_rt : ∀ (l : List Int) (s : Option Int), Rt s → InL l → Rt (l.foldl (fun s v => moreM s (valM false v)) s)
  | [], s, h, _ => h
  | v :: l, s, h, hl => most_rt l _ (moreM_rt h (valM_rt (hl v (by simp)).2)) (fun x hx => hl x (by simp [hx]))

theorem rt_zero : Rt (some 0) := by intro z h; injection h with h; omega
theorem rt_none : Rt none := by intro z h; cases h

theorem in_take {l : List Int} (h : InL l) (i : Nat) : InL (l.take i) := fun v hv => h v (List.mem_of_mem_take hv)
theorem in_get {l : List Int} (h : InL l) {i : Nat} {v : Int} (hg : l[i]? = some v) : -9223372036854775808 ≤ v ∧ v < 9223372036854775808 := h v (List.mem_of_getElem? hg)

theorem f_ladder_sum (l : List Int) (hl : InL l) (hn : l.length ≤ maxLen) : Meets Tryz.prog E0 n_ladder_sum [intL l] [] (NO (sumM l)) [] := by
  refine m_ladder_sum (by simp) (shut0 rfl) (shut0 rfl) (by simp) (by simp [keysOf]) ?_
  have hn2 : l.length ≤ 9223372036854775807 := hn
  have h0 := f_fixed_Int 0 (by decide) (by decide)
  rw [show tellM (0 * 1000000) = some 0 from by decide] at h0
  simp only [go_sem, s_ladder_sum, ↓reduceIte, Nat.reduceEqDiff, Nat.reduceAdd, Nat.reduceLeDiff, reduceCtorEq, Nat.reduceLT, Int.reduceLT, Int.reduceLE, Int.reduceEq, Int.reduceToNat, Nat.reduceMul]
  refine Cl_plain h0 ?_
  simp only [go_sem, ↓reduceIte, Nat.reduceEqDiff, Nat.reduceAdd, Nat.reduceLeDiff, reduceCtorEq, Nat.reduceLT, Int.reduceLT, Int.reduceLE, Int.reduceEq, Int.reduceToNat, Nat.reduceMul]
  refine W_loop (fun i : Nat => l.length - i) (fun i => i ≤ l.length)
    (fun i => [(2, .ptr 100 0), (3, .ptr 102 0), (7, intL l), (8, I l.length), (9, I i)])
    (fun i => [(100, .box [Bo false, I 0]), (102, .box [Bo (sumM (l.take i)).isNone, I ((sumM (l.take i)).getD 0)])]) 0 (Nat.zero_le _) ?_ ?_
  · rw [show sumM (l.take 0) = some 0 from rfl]
    exact (subL [] [] (by simp [envS, go_sem, wkV, wkL, AV.ids, idsL, keysOf, ren]) (by simp [stoS, go_sem, wkV, wkL, wkO, AV.ids, Ob.ids, idsL, keysOf, ren, AV.one]) (by simp [keysOf, ren]) (by simp) (by simp [keysOf]) (by simp [keysOf]))
  intro i hi
  simp only [go_sem, ↓reduceIte, Nat.reduceEqDiff, Nat.reduceAdd, Nat.reduceLeDiff, reduceCtorEq, Nat.reduceLT, Int.reduceLT, Int.reduceLE, Int.reduceEq, Int.reduceToNat, Nat.reduceMul]
  refine W_split rfl (fun h => ?_) (fun h => ?_)
  · simp at h
    obtain ⟨v, hv⟩ := get_of_lt h
    have hb := in_get hl hv
    have ei : IntKind.i64.wrap ((i : Int) + 1) = ((i + 1 : Nat) : Int) := by rw [wrap_i64_of (by omega) (by omega)]; omega
    have hs : sumM (l.take (i + 1)) = addM (sumM (l.take i)) (valM false v) := foldl_take _ _ _ _ _ hv
    have r1 : Rt (sumM (l.take i)) := sum_rt _ _ rt_zero
    have r2 : Rt (valM false v) := valM_rt hb.2
    have c := f_fixed_Add (sumM (l.take i)).isNone (valM false v).isNone _ _ r1.lo r1.hi r2.lo r2.hi
    rw [r1.val, r2.val, ← hs] at c
    simp only [go_sem, hv, iT, ↓reduceIte, Nat.reduceEqDiff, Nat.reduceAdd, Nat.reduceLeDiff, reduceCtorEq, Nat.reduceLT, Int.reduceLT, Int.reduceLE, Int.reduceEq, Int.reduceToNat, Nat.reduceMul]
    refine Cl_plain (f_fixed_Of v hb.1 hb.2) ?_
    simp only [go_sem, ↓reduceIte, Nat.reduceEqDiff, Nat.reduceAdd, Nat.reduceLeDiff, reduceCtorEq, Nat.reduceLT, Int.reduceLT, Int.reduceLE, Int.reduceEq, Int.reduceToNat, Nat.reduceMul]
    refine Cl_plain c ?_
    simp only [go_sem, ↓reduceIte, Nat.reduceEqDiff, Nat.reduceAdd, Nat.reduceLeDiff, reduceCtorEq, Nat.reduceLT, Int.reduceLT, Int.reduceLE, Int.reduceEq, Int.reduceToNat, Nat.reduceMul]
    ((try (with_reducible refine R_fin (by repeat' (first | exact okp0 | refine okp rfl rfl rfl ?_)) ?_)); (try simp only [go_sem, ei, ↓reduceIte, Nat.reduceEqDiff, Nat.reduceAdd, Nat.reduceLeDiff, reduceCtorEq, Nat.reduceLT, Int.reduceLT, Int.reduceLE, Int.reduceEq, Int.reduceToNat, Nat.reduceMul]))
    exact rd_of (i + 1) (by first | omega | (simp only; omega)) (by first | omega | (simp only; omega)) (subL [] [] (by simp [envS, go_sem, wkV, wkL, AV.ids, idsL, keysOf, ren]) (by simp [stoS, go_sem, wkV, wkL, wkO, AV.ids, Ob.ids, idsL, keysOf, ren, AV.one]) (by simp [keysOf, ren]) (by simp) (by simp [keysOf]) (by simp [keysOf]))
  · have e : i = l.length := by simp at h; omega
    subst e
    rw [List.take_length]
    simp only [go_sem, ↓reduceIte, Nat.reduceEqDiff, Nat.reduceAdd, Nat.reduceLeDiff, reduceCtorEq, Nat.reduceLT, Int.reduceLT, Int.reduceLE, Int.reduceEq, Int.reduceToNat, Nat.reduceMul]
    refine wends (by first | exact Or.inl rfl | exact Or.inr rfl) ?_ (by first | rfl | simp [AV.ids, idsL])
    simp only [go_sem, r_ladder_sum, ↓reduceIte, Nat.reduceEqDiff, Nat.reduceAdd, Nat.reduceLeDiff, reduceCtorEq, Nat.reduceLT, Int.reduceLT, Int.reduceLE, Int.reduceEq, Int.reduceToNat, Nat.reduceMul]

/-- A choice of one of two numbers. -/
def PickOk (g : Nat) (f : Option Int → Option Int → Option Int) : Prop := ∀ x y v u, -9223372036854775808 ≤ v → v < 9223372036854775808 → -9223372036854775808 ≤ u → u < 9223372036854775808 → Meets Tryz.prog E0 g [NV x v, NV y u] [] (NO (f (valM x v) (valM y u))) []

theorem f_ladder_extreme (g : Nat) (f : Option Int → Option Int → Option Int) (hg : PickOk g f) (hrt : ∀ a b, Rt a → Rt b → Rt (f a b)) (l : List Int) (hl : InL l) (hn : l.length ≤ maxLen) :
    Meets Tryz.prog E0 n_ladder_extreme [intL l, .fn g [] []] [] (NO (l.foldl (fun s v => f s (valM false v)) none)) [] := by
  refine m_ladder_extreme (by simp) (shut0 rfl) (shut0 rfl) (by simp) (by simp [keysOf]) ?_
  have hn2 : l.length ≤ 9223372036854775807 := hn
  have frt : ∀ (l : List Int) (s : Option Int), Rt s → InL l → Rt (l.foldl (fun s v => f s (valM false v)) s) := by
    intro l
    induction l with
    | nil => exact fun s h _ => h
    | cons v l ih => exact fun s h hl => ih _ (hrt _ _ h (valM_rt (hl v (by simp)).2)) (fun x hx => hl x (by simp [hx]))
  simp only [go_sem, s_ladder_extreme, ↓reduceIte, Nat.reduceEqDiff, Nat.reduceAdd, Nat.reduceLeDiff, reduceCtorEq, Nat.reduceLT, Int.reduceLT, Int.reduceLE, Int.reduceEq, Int.reduceToNat, Nat.reduceMul]
  refine W_loop (fun i : Nat => l.length - i) (fun i => i ≤ l.length)
    (fun i => [(1, .fn g [] []), (4, .ptr 100 0), (5, .ptr 102 0), (9, intL l), (10, I l.length), (11, I i)])
    (fun i => [(100, .box [Bo false, I 0]), (102, .box [Bo ((l.take i).foldl (fun s v => f s (valM false v)) none).isNone, I (((l.take i).foldl (fun s v => f s (valM false v)) none).getD 0)])]) 0 (Nat.zero_le _) (subL [] [] (by simp [envS, go_sem, wkV, wkL, AV.ids, idsL, keysOf, ren]) (by simp [stoS, go_sem, wkV, wkL, wkO, AV.ids, Ob.ids, idsL, keysOf, ren, AV.one]) (by simp [keysOf, ren]) (by simp) (by simp [keysOf]) (by simp [keysOf])) ?_
  intro i hi
  simp only [go_sem, ↓reduceIte, Nat.reduceEqDiff, Nat.reduceAdd, Nat.reduceLeDiff, reduceCtorEq, Nat.reduceLT, Int.reduceLT, Int.reduceLE, Int.reduceEq, Int.reduceToNat, Nat.reduceMul]
  refine W_split rfl (fun h => ?_) (fun h => ?_)
  · simp at h
    obtain ⟨v, hv⟩ := get_of_lt h
    have hb := in_get hl hv
    have ei : IntKind.i64.wrap ((i : Int) + 1) = ((i + 1 : Nat) : Int) := by rw [wrap_i64_of (by omega) (by omega)]; omega
    have hs := foldl_take (fun s v => f s (valM false v)) none _ _ _ hv
    have r1 := frt (l.take i) none rt_none (in_take hl i)
    have r2 : Rt (valM false v) := valM_rt hb.2
    generalize (l.take i).foldl (fun s v => f s (valM false v)) none = s at *
    have c := hg s.isNone (valM false v).isNone _ _ r1.lo r1.hi r2.lo r2.hi
    rw [r1.val, r2.val] at c
    simp only [go_sem, hv, iT, ↓reduceIte, Nat.reduceEqDiff, Nat.reduceAdd, Nat.reduceLeDiff, reduceCtorEq, Nat.reduceLT, Int.reduceLT, Int.reduceLE, Int.reduceEq, Int.reduceToNat, Nat.reduceMul]
    refine Cl_plain (f_fixed_Of v hb.1 hb.2) ?_
    simp only [go_sem, ↓reduceIte, Nat.reduceEqDiff, Nat.reduceAdd, Nat.reduceLeDiff, reduceCtorEq, Nat.reduceLT, Int.reduceLT, Int.reduceLE, Int.reduceEq, Int.reduceToNat, Nat.reduceMul]
    refine Cl_plain c ?_
    simp only [go_sem, ↓reduceIte, Nat.reduceEqDiff, Nat.reduceAdd, Nat.reduceLeDiff, reduceCtorEq, Nat.reduceLT, Int.reduceLT, Int.reduceLE, Int.reduceEq, Int.reduceToNat, Nat.reduceMul]
    ((try (with_reducible refine R_fin (by repeat' (first | exact okp0 | refine okp rfl rfl rfl ?_)) ?_)); (try simp only [go_sem, ei, ↓reduceIte, Nat.reduceEqDiff, Nat.reduceAdd, Nat.reduceLeDiff, reduceCtorEq, Nat.reduceLT, Int.reduceLT, Int.reduceLE, Int.reduceEq, Int.reduceToNat, Nat.reduceMul]))
    refine rd_of (i + 1) (by first | omega | (simp only; omega)) (by first | omega | (simp only; omega)) ?_
    rw [hs]
    exact (subL [] [] (by simp [envS, go_sem, wkV, wkL, AV.ids, idsL, keysOf, ren]) (by simp [stoS, go_sem, wkV, wkL, wkO, AV.ids, Ob.ids, idsL, keysOf, ren, AV.one]) (by simp [keysOf, ren]) (by simp) (by simp [keysOf]) (by simp [keysOf]))
  · have e : i = l.length := by simp at h; omega
    subst e
    rw [List.take_length]
    simp only [go_sem, ↓reduceIte, Nat.reduceEqDiff, Nat.reduceAdd, Nat.reduceLeDiff, reduceCtorEq, Nat.reduceLT, Int.reduceLT, Int.reduceLE, Int.reduceEq, Int.reduceToNat, Nat.reduceMul]
    refine wends (by first | exact Or.inl rfl | exact Or.inr rfl) ?_ (by first | rfl | simp [AV.ids, idsL])
    simp only [go_sem, r_ladder_extreme, ↓reduceIte, Nat.reduceEqDiff, Nat.reduceAdd, Nat.reduceLeDiff, reduceCtorEq, Nat.reduceLT, Int.reduceLT, Int.reduceLE, Int.reduceEq, Int.reduceToNat, Nat.reduceMul]

theorem pick_less_ok : PickOk n_fixed_Less lessM := fun x y v u _ _ _ _ => f_fixed_Less x y v u
theorem pick_more_ok : PickOk n_fixed_More moreM := fun x y v u _ _ _ _ => f_fixed_More x y v u

theorem last_get {l : List Int} {v : Int} (h : l[l.length - 1]? = some v) : lastM l = valM false v := by
  unfold lastM; rw [List.getLast?_eq_getElem?, h]

theorem f_ladder_Blend (m : Int) (l : List Int) (hl : InL l) (hn : l.length ≤ maxLen) : Meets Tryz.prog E0 n_ladder_Blend [I m, intL l] [] (NO (blendM m l)) [] := by
  refine m_ladder_Blend (by simp) (shut0 rfl) (shut0 rfl) (by simp) (by simp [keysOf]) ?_
  have hn2 : l.length ≤ 9223372036854775807 := hn
  by_cases h0 : l = []
  · subst h0
    have d0 : decide ((([] : List Int).length : Int) = 0) = true := rfl
    have d1 : decide ((0 : Int) = 0) = true := rfl
    have d2 : decide ((0 : Nat) = 0) = true := rfl
    have d3 : decide (((0 : Nat) : Int) = 0) = true := rfl
    rw [show blendM m [] = none from if_pos rfl]
    repeat' (first | (simp only [go_sem, s_ladder_Blend, d1, d2, d3, List.map_nil, List.length_nil, ↓reduceIte, Nat.reduceEqDiff, Nat.reduceAdd, Nat.reduceLeDiff, reduceCtorEq, Nat.reduceLT, Int.reduceLT, Int.reduceLE, Int.reduceEq, Int.reduceToNat, Nat.reduceMul, *]) | (simp (disch := omega) only [s_ladder_Blend, d1, d2, d3, List.map_nil, List.length_nil, wrap_i64_of, i64_quo, i64_rem, sdiv, smod]) | ((with_reducible refine W_split (by with_unfolding_all exact rfl) (fun hsp => ?_) (fun hsp => ?_)) <;> (try simp only [Bool.not_true, Bool.not_false, decide_eq_true_eq, decide_eq_false_iff_not, Bool.not_eq_true', Bool.not_eq_false', not_false_eq_true] at hsp)) | ((with_reducible refine R_split (by with_unfolding_all exact rfl) (fun hsp => ?_) (fun hsp => ?_)) <;> (try simp only [Bool.not_true, Bool.not_false, decide_eq_true_eq, decide_eq_false_iff_not, Bool.not_eq_true', Bool.not_eq_false', not_false_eq_true] at hsp)) | (with_reducible refine R_fin (by repeat' (first | exact okp0 | refine okp rfl rfl rfl ?_)) ?_))
    all_goals
      refine wends (by first | exact Or.inl rfl | exact Or.inr rfl) ?_ (by first | rfl | simp [AV.ids, idsL])
      simp only [go_sem, r_ladder_Blend, ↓reduceIte, Nat.reduceEqDiff, Nat.reduceAdd, Nat.reduceLeDiff, reduceCtorEq, Nat.reduceLT, Int.reduceLT, Int.reduceLE, Int.reduceEq, Int.reduceToNat, Nat.reduceMul]
      rfl
  · have hp : 0 < l.length := List.length_pos_iff.2 h0
    have d0 : decide ((l.length : Int) = 0) = false := decide_eq_false (by omega)
    have e : blendM m l = if m = 1 then divM (sumM l) (tellM (l.length * 1000000)) else if m = 2 then sumM l else if m = 3 then leastM l else if m = 4 then mostM l else if m = 5 then lastM l else none := if_neg h0
    rw [e]
    have r1 : Rt (sumM l) := sum_rt _ _ rt_zero
    have r2 : Rt (tellM ((l.length : Int) * 1000000)) := fun z h => tell_range h
    have b1 := f_ladder_sum l hl hn
    have b2 := f_fixed_Int (l.length : Int) (by omega) (by omega)
    have b3 := f_fixed_Div (sumM l).isNone (tellM ((l.length : Int) * 1000000)).isNone _ _ r1.lo r1.hi r2.lo r2.hi
    rw [r1.val, r2.val] at b3
    have b4 := f_ladder_extreme _ _ pick_less_ok (fun a b ha hb => lessM_rt ha hb) l hl hn
    have b5 := f_ladder_extreme _ _ pick_more_ok (fun a b ha hb => moreM_rt ha hb) l hl hn
    obtain ⟨v, hv⟩ := get_of_lt (l := l) (i := l.length - 1) (by omega)
    have hb := in_get hl hv
    have b6 := f_fixed_Of v hb.1 hb.2
    have el := last_get hv
    have ew : IntKind.i64.wrap ((l.length : Int) - 1) = ((l.length - 1 : Nat) : Int) := by rw [wrap_i64_of (by omega) (by omega)]; omega
    rw [← el] at b6
    clear h0 e el hl hn hn2 hp r1 r2 hb
    repeat' (first | (with_reducible refine Cl_plain (b1) ?_) | (with_reducible refine Cl_plain (b2) ?_) | (with_reducible refine Cl_plain (b3) ?_) | (with_reducible refine Cl_plain (b4) ?_) | (with_reducible refine Cl_plain (b5) ?_) | (with_reducible refine Cl_plain (b6) ?_) | (simp only [go_sem, s_ladder_Blend, iT, ew, ↓reduceIte, Nat.reduceEqDiff, Nat.reduceAdd, Nat.reduceLeDiff, reduceCtorEq, Nat.reduceLT, Int.reduceLT, Int.reduceLE, Int.reduceEq, Int.reduceToNat, Nat.reduceMul, *]) | (simp (disch := omega) only [s_ladder_Blend, iT, ew, wrap_i64_of, i64_quo, i64_rem, sdiv, smod]) | ((with_reducible refine W_split (by with_unfolding_all exact rfl) (fun hsp => ?_) (fun hsp => ?_)) <;> (try simp only [Bool.not_true, Bool.not_false, decide_eq_true_eq, decide_eq_false_iff_not, Bool.not_eq_true', Bool.not_eq_false', not_false_eq_true] at hsp)) | ((with_reducible refine R_split (by with_unfolding_all exact rfl) (fun hsp => ?_) (fun hsp => ?_)) <;> (try simp only [Bool.not_true, Bool.not_false, decide_eq_true_eq, decide_eq_false_iff_not, Bool.not_eq_true', Bool.not_eq_false', not_false_eq_true] at hsp)) | (with_reducible refine R_fin (by repeat' (first | exact okp0 | refine okp rfl rfl rfl ?_)) ?_))
    all_goals
      refine wends (by first | exact Or.inl rfl | exact Or.inr rfl) ?_ (by first | rfl | simp [AV.ids, idsL])
      simp only [go_sem, r_ladder_Blend, ↓reduceIte, Nat.reduceEqDiff, Nat.reduceAdd, Nat.reduceLeDiff, reduceCtorEq, Nat.reduceLT, Int.reduceLT, Int.reduceLE, Int.reduceEq, Int.reduceToNat, Nat.reduceMul]
      try simp_all [leastM, mostM]

theorem fold_ref (f : Option Int → Option Int → Option Int) (h0 : ∀ a, f none a = a) (h1 : ∀ a, f a a = a) (v : Int) (l : List Int) :
    (v :: l).foldl (fun s v => f s (valM false v)) (valM false v) = (v :: l).foldl (fun s v => f s (valM false v)) none := by
  simp only [List.foldl_cons, h0, h1]

theorem less_none (a : Option Int) : lessM none a = a := by cases a <;> rfl
theorem less_self (a : Option Int) : lessM a a = a := by cases a <;> simp [lessM]
theorem more_none (a : Option Int) : moreM none a = a := by cases a <;> rfl
theorem more_self (a : Option Int) : moreM a a = a := by cases a <;> simp [moreM]

end Go.Proofs.YtmjlldlaigoflaaGreat
